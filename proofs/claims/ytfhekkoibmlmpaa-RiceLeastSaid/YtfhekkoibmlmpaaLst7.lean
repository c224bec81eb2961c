/- Texts of this claim's proof, laid behind each other by a program of ours, without what the proof does not reach: Contracts of layer 8, proved by hand: Encode and Decode, whole; Plain words of layer 1: what was written is read as it was; The plain law of layer 8: what was written is read as it was; The plain law of layer 8: what was written is read as it was; the partitions one behind the other; The plain law of layer 8: what was written is read as it was; the whole; Plain words of layer 8: the bits of Rice codes, the best parameter, the best recipe; what the printed functions come to; Contracts of layer 8, proved by hand: try; Contracts of layer 8, proved by hand: try, where the shape may be -/
import Derived.Laws.StructEq
import Derived.Test.YtfhekkoibmlmpaaLst1
import Derived.Test.YtfhekkoibmlmpaaLst2
import Derived.Test.YtfhekkoibmlmpaaLst3
import Derived.Test.YtfhekkoibmlmpaaLst4
import Derived.Test.YtfhekkoibmlmpaaLst5
import Derived.Test.YtfhekkoibmlmpaaLst6
import Derived.Test.YtfhekkoibmlmpaaLstWApart
import Derived.Test.YtfhekkoibmlmpaaLstWFoot
import Derived.Test.YtfhekkoibmlmpaaLstWGuard
import Derived.Test.YtfhekkoibmlmpaaLstWInv
import Derived.Test.YtfhekkoibmlmpaaLstWKept
import Derived.Test.YtfhekkoibmlmpaaLstWLast
import Derived.Test.YtfhekkoibmlmpaaLstWMore
import Derived.Test.YtfhekkoibmlmpaaLstWN
import Derived.Test.YtfhekkoibmlmpaaLstWRepsOne
import Derived.Test.YtfhekkoibmlmpaaLstWShare
import Derived.Test.YtfhekkoibmlmpaaLstWTab
import Derived.Test.YtfhekkoibmlmpaaLstWWords
/- Contracts of layer 8, proved by hand: Encode and Decode, whole. -/
namespace Go.Proofs.Ytfhekkoibmlmpaa.Hand
open Go.RowKit Go.Proofs.Ytfhekkoibmlmpaa.Q Go.Proofs.YtfhekkoibmlmpaaW.PrintWords Go.Proofs.YtfhekkoibmlmpaaW.PrintLast Go.Proofs.YtfhekkoibmlmpaaW.PrintMore
set_option linter.unusedVariables false
set_option linter.unusedSimpArgs false

/-- A shape that may be, in natural numbers. -/
theorem shape_nat {m o block order : Int} (h : shapeP m o block order) : ∃ O Bk Od n : Nat, o = O ∧ block = Bk ∧ order = Od ∧ O ≤ 15 ∧ 1 ≤ Bk ∧ Bk ≤ 65535 ∧ Od ≤ 32 ∧ Bk = 2 ^ O * n ∧ Od ≤ n ∧ (block / 2 ^ o.toNat).toNat = n ∧ (m = 0 ∨ m = 1) := by
  obtain ⟨hm, o0, o1, b0, b1, d0, d1, h8, h9⟩ := h
  obtain ⟨O, rfl⟩ := Int.eq_ofNat_of_zero_le o0
  obtain ⟨Bk, rfl⟩ := Int.eq_ofNat_of_zero_le (show 0 ≤ block by omega)
  obtain ⟨Od, rfl⟩ := Int.eq_ofNat_of_zero_le d0
  rw [Int.toNat_natCast] at h8 h9
  have e : (2 : Int) ^ O = ((2 ^ O : Nat) : Int) := by simp
  rw [e] at h8 h9
  rw [← Int.natCast_emod] at h8
  rw [← Int.natCast_ediv] at h9
  have h8' : Bk % 2 ^ O = 0 := by exact_mod_cast h8
  have h9' : Od ≤ Bk / 2 ^ O := by exact_mod_cast h9
  refine ⟨O, Bk, Od, Bk / 2 ^ O, rfl, rfl, rfl, by omega, by omega, by omega, by omega, ?_, h9', ?_, hm⟩
  · have := Nat.div_add_mod Bk (2 ^ O)
    omega
  · rw [Int.toNat_natCast, e, ← Int.natCast_ediv, Int.toNat_natCast]
theorem Encode_any (m o block order : Int) (AP AE A : Option Addr) (cP cE c : Nat) (ps es l : List Int) (bs : List Bool) (B g : Nat) (v : Value) (w : World) (m0 : -9223372036854775808 ≤ m) (m1 : m ≤ 9223372036854775807) (hin : ∀ x ∈ l, -9223372036854775808 ≤ x ∧ x ≤ 9223372036854775807)
    (hcP : ps.length ≤ cP) (hcE : es.length ≤ cE) (hc : l.length ≤ c) (hW : WAt w B g v bs) (hP : ListAt w g v AP ps) (hE : ListAt w g v AE es) (hA : ListAt w g v A l) (hbs : bs.length + 4398046511104 < 1125899906842624) :
    Calls Try.prog 13 #[.pointer (some ⟨g, 0, none⟩), .agg #[.int .i64 m, .int .i64 o, .slice AP ps.length cP, .slice AE es.length cE], .int .i64 block, .int .i64 order, .slice A l.length c] w
      fun e w' => e = .returned (.int .i64 (if canE m o ps es block order l then 0 else 60)) ∧ ∃ v', WAt w' B g v' (if canE m o ps es block order l then bs ++ bitsE m o ps es block order l else bs) ∧ Moved B g w v w' v' := by
  have hBw : B ≤ w.heap.size := by have := hW.lt; have := hW.2.2; omega
  have hno : ∀ {Q : World → Prop}, ¬ canE m o ps es block order l → (Calls Try.prog 13 #[.pointer (some ⟨g, 0, none⟩), .agg #[.int .i64 m, .int .i64 o, .slice AP ps.length cP, .slice AE es.length cE], .int .i64 block, .int .i64 order, .slice A l.length c] w fun e w' => e = .returned (.int .i64 60) ∧ Below w.heap.size w w') →
      Calls Try.prog 13 #[.pointer (some ⟨g, 0, none⟩), .agg #[.int .i64 m, .int .i64 o, .slice AP ps.length cP, .slice AE es.length cE], .int .i64 block, .int .i64 order, .slice A l.length c] w
      fun e w' => e = .returned (.int .i64 (if canE m o ps es block order l then 0 else 60)) ∧ ∃ v', WAt w' B g v' (if canE m o ps es block order l then bs ++ bitsE m o ps es block order l else bs) ∧ Moved B g w v w' v' := fun hn hcall => by
    rw [if_neg hn, if_neg hn]
    exact hcall.mono fun e w' ⟨h1, h2⟩ => ⟨h1, v, hW.below h2, (Moved.refl B g w v).new h2 hBw⟩
  by_cases hck : checkP m o ps es block order
  · by_cases hlen : (l.length : Int) = block - order
    · obtain ⟨O, Bk, Od, n, rfl, rfl, rfl, hO, hB0, hB1, hOd, hdiv, hdn, hn, hm⟩ := shape_nat hck.1
      have hps : ps.length = 2 ^ O := by have := hck.2.1; rwa [Int.toNat_natCast] at this
      have hes : es.length = 2 ^ O := by have := hck.2.2.1; rwa [Int.toNat_natCast] at this
      have hl : l.length + Od = Bk := by omega
      by_cases hall : allMay n Od ps es l ps.length = true
      · have hcan : canE m O ps es Bk Od l := ⟨hck, hlen, by rw [hn, Int.toNat_natCast]; exact hall⟩
        rw [if_pos hcan, if_pos hcan]
        have hbits : bitsE m O ps es Bk Od l = nbits m.toNat 2 ++ (nbits O 4 ++ partsX (4 + m.toNat) n Od ps es l ps.length) := by
          unfold bitsE
          rw [hn, Int.toNat_natCast, Int.toNat_natCast]
        rw [hbits]
        rcases hm with rfl | rfl
        · exact Encode_yes0 O n Bk Od AP AE A cP cE c ps es l bs B g v w hO hB1 hOd hdiv hdn hl hps hes hck.2.2.2 hin hcP hcE hc hW hP hE hA hck hall hbs
        · exact Encode_yes1 O n Bk Od AP AE A cP cE c ps es l bs B g v w hO hB1 hOd hdiv hdn hl hps hes hck.2.2.2 hin hcP hcE hc hW hP hE hA hck hall hbs
      · refine hno (Q := fun _ => True) (fun h => hall (by have := h.2.2; rw [hn, Int.toNat_natCast] at this; exact this)) ?_
        exact Encode_may m O n Bk Od AP AE A cP cE c ps es l g w hm hO hB1 hOd hdiv hdn hl hps hes hck.2.2.2 hin hcP hcE hc hP.1 hE.1 hA.1 hck hall
    · exact hno (Q := fun _ => True) (fun h => hlen h.2.1) (Encode_no m o AP AE A cP cE c ps es l block order g w hP.1 hcP hE.1 hcE m0 m1 (.inr ⟨hlen, hck⟩))
  · exact hno (Q := fun _ => True) (fun h => hck h.1) (Encode_no m o AP AE A cP cE c ps es l block order g w hP.1 hcP hE.1 hcE m0 m1 (.inl hck))
/-- What Decode tells: the residuals and the recipe, the error, the place. -/
def decX (s : ByteArray) (p : Nat) (block order : Int) : Option (List Int × List Int × List Int × Nat) :=
  decL s (block / 2 ^ (getR s (getR s p 2).2.2 4).1).toNat order.toNat (4 + (getR s p 2).1) (2 ^ (getR s (getR s p 2).2.2 4).1) 0 [] [] [] (getR s (getR s p 2).2.2 4).2.2
def headD (s : ByteArray) (p : Nat) (block order : Int) : Prop := (getR s p 2).2.1 = 0 ∧ (getR s (getR s p 2).2.2 4).2.1 = 0 ∧ shapeP (getR s p 2).1 (getR s (getR s p 2).2.2 4).1 block order
instance (s : ByteArray) (p : Nat) (block order : Int) : Decidable (headD s p block order) := by unfold headD; infer_instance
/-- The method, the order, the residuals, the parameters, the escapes, the error, the place (where there is no error). -/
def decF (s : ByteArray) (p : Nat) (block order : Int) : Int × Int × List Int × List Int × List Int × Int × Nat :=
  if badArgs block order then (0, 0, [], [], [], 1, p)
  else if headD s p block order then
    match decX s p block order with
    | none => (0, 0, [], [], [], 2, p)
    | some (al, ps, es, q) => ((getR s p 2).1, (getR s (getR s p 2).2.2 4).1, al, ps, es, 0, q)
  else (0, 0, [], [], [], 2, p)
theorem Decode_any (s : ByteArray) (hs : s.size ≤ 281474976710656) (p : Nat) (hp : p ≤ 8 * s.size) (block order : Int) (B g : Nat) (hB : B ≤ g) (w : World) (hBw : B ≤ w.heap.size) (hR : RAt w g s p) :
    Calls Try.prog 21 #[.pointer (some ⟨g, 0, none⟩), .int .i64 block, .int .i64 order] w fun e w' => ∃ vl vP vE,
      e = .returned (.tuple #[vl, .agg #[.int .i64 (decF s p block order).1, .int .i64 (decF s p block order).2.1, vP, vE], .int .i64 (decF s p block order).2.2.2.2.2.1]) ∧
      IntsAt w' w.heap.size vl (decF s p block order).2.2.1 ∧ IntsAt w' w.heap.size vP (decF s p block order).2.2.2.1 ∧ IntsAt w' w.heap.size vE (decF s p block order).2.2.2.2.1 ∧
      (∃ q, RAt w' g s q ∧ q ≤ 8 * s.size ∧ ((decF s p block order).2.2.2.2.2.1 = 0 → q = (decF s p block order).2.2.2.2.2.2)) ∧ Turned B g w w' := by
  by_cases hbad : badArgs block order
  · have e : decF s p block order = (0, 0, [], [], [], 1, p) := if_pos hbad
    rw [e]
    refine (Decode_arg block order _ w (.inr ⟨g, rfl, hbad⟩)).mono fun e w' ⟨h1, h2⟩ => ?_
    exact ⟨_, _, _, h1, IntsAt.nil _ _, IntsAt.nil _ _, IntsAt.nil _ _, ⟨p, hR.below h2, hp, fun _ => rfl⟩, (Turned.refl B g w).new h2 hBw⟩
  · by_cases hh : headD s p block order
    · have e : decF s p block order = match decX s p block order with
        | none => (0, 0, [], [], [], 2, p)
        | some (al, ps, es, q) => ((getR s p 2).1, (getR s (getR s p 2).2.2 4).1, al, ps, es, 0, q) := (if_neg hbad).trans (if_pos hh)
      rw [e]
      clear e
      obtain ⟨h1, h2, hsh⟩ := hh
      obtain ⟨O, Bk, Od, n, hO, rfl, rfl, hO15, hB0, hB1, hOd, hdiv, hdn, hn, hm⟩ := shape_nat hsh
      have hO2 : (getR s (getR s p 2).2.2 4).1 = O := by omega
      have hX : decX s p Bk Od = decL s n Od (4 + (getR s p 2).1) (2 ^ (getR s (getR s p 2).2.2 4).1) 0 [] [] [] (getR s (getR s p 2).2.2 4).2.2 := by
        unfold decX
        rw [Int.toNat_natCast] at hn
        rw [hn, Int.toNat_natCast]
      rw [← hO2] at hdiv
      have key : Calls Try.prog 21 #[.pointer (some ⟨g, 0, none⟩), .int .i64 Bk, .int .i64 Od] w (DecPost s (getR s p 2).1 (getR s (getR s p 2).2.2 4).1 (decX s p Bk Od) w.heap.size B g w) := by
        rw [hX]
        rcases hm with hm | hm
        · have hm2 : (getR s p 2).1 = 0 := by omega
          have := Decode_go0 s hs p hp Bk Od n hbad B g hB w hBw hR h1 h2 hm2 (by rw [← hm]; exact hsh) hdiv hdn
          rw [hm2]
          exact this
        · have hm2 : (getR s p 2).1 = 1 := by omega
          have := Decode_go1 s hs p hp Bk Od n hbad B g hB w hBw hR h1 h2 hm2 (by rw [← hm]; exact hsh) hdiv hdn
          rw [hm2]
          exact this
      refine key.mono fun e w' hpost => ?_
      rcases hpost with ⟨hx, he, ⟨q, hr, hq⟩, ht⟩ | ⟨al, ps, es, q, vl, vP, vE, hx, he, hl, hp', he', hr, hq, ht⟩
      · rw [hx]
        exact ⟨_, _, _, he, IntsAt.nil _ _, IntsAt.nil _ _, IntsAt.nil _ _, ⟨q, hr, hq, fun h => by cases h⟩, ht⟩
      · rw [hx]
        exact ⟨_, _, _, he, hl, hp', he', ⟨q, hr, hq, fun _ => rfl⟩, ht⟩
    · have e : decF s p block order = (0, 0, [], [], [], 2, p) := (if_neg hbad).trans (if_neg hh)
      rw [e]
      refine (Decode_head s hs p hp block order hbad B g hB w hR ?_).mono fun e w' ⟨h1, ⟨q, h2, h3⟩, h4⟩ => ?_
      · unfold headD at hh
        by_cases c1 : (getR s p 2).2.1 = 0
        · by_cases c2 : (getR s (getR s p 2).2.2 4).2.1 = 0
          · exact .inr (.inr ⟨c1, c2, fun h => hh ⟨c1, c2, h⟩⟩)
          · exact .inr (.inl ⟨c1, c2⟩)
        · exact .inl c1
      · exact ⟨_, _, _, h1, IntsAt.nil _ _, IntsAt.nil _ _, IntsAt.nil _ _, ⟨q, h2, h3, fun h => by cases h⟩, h4⟩
end Go.Proofs.Ytfhekkoibmlmpaa.Hand

/- Plain words of layer 1: what was written is read as it was. -/
namespace Go.Proofs.Ytfhekkoibmlmpaa.Hand
open Go.RowKit Go.Proofs.Ytfhekkoibmlmpaa.Q Go.Proofs.YtfhekkoibmlmpaaW.PrintWords Go.Proofs.YtfhekkoibmlmpaaW.PrintLast Go.Proofs.YtfhekkoibmlmpaaW.PrintMore
set_option linter.unusedVariables false
set_option linter.unusedSimpArgs false

structure Deed where
  k : Int
  w : Int
  n : Int
  u : Int
/-- A deed that is written without an error. -/
def okDeed (d : Deed) : Prop := if d.k = 0 then putP d.u.toNat d.w else if d.k = 1 then fitsP d.n d.w else if d.k = 2 then 0 ≤ d.n ∧ d.n ≤ 16777216 else if d.k = 3 then riceP d.n d.w else True
instance (d : Deed) : Decidable (okDeed d) := by unfold okDeed; infer_instance
def codeD (L : Nat) (d : Deed) : List Bool := if d.k = 0 then nbits d.u.toNat d.w.toNat else if d.k = 1 then nbits (wordN d.n) d.w.toNat else if d.k = 2 then List.replicate d.n.toNat false ++ [true] else if d.k = 3 then riceB d.n d.w.toNat else List.replicate (padN L) false
/-- A text that holds bits, and noughts up to a whole byte. -/
structure Holds (s : ByteArray) (F : List Bool) : Prop where
  bit : ∀ q, tb s q = F.getD q false
  len : F.length ≤ 8 * s.size
  end_ : 8 * s.size < F.length + 8
theorem bytesOf_nums (l : List Int) (h : ∀ x ∈ l, 0 ≤ x ∧ x < 256) : bytesOf (strOfNums l) = l := by
  unfold bytesOf strOfNums
  simp only [List.map_map]
  conv => rhs; rw [← List.map_id l]
  apply List.map_congr_left
  intro x hx
  have := h x hx
  simp
  omega
theorem size_nums (l : List Int) : (strOfNums l).size = l.length := by
  have : (strOfNums l).size = ((l.map fun n => UInt8.ofNat n.toNat).toArray).size := rfl
  rw [this, List.size_toArray, List.length_map]
theorem pack_in (bs : List Bool) : ∀ x ∈ pack bs, 0 ≤ x ∧ x < 256 := by
  intro x hx
  unfold pack at hx
  obtain ⟨j, hj, rfl⟩ := List.mem_map.1 hx
  have := val_lt ((bs.drop (8 * j)).take 8) 7
  rw [show (2 : Nat) ^ 7 = 128 from rfl, show (2 : Nat) ^ (7 + 1) = 256 from rfl] at this
  omega
theorem text_holds (F : List Bool) : Holds (strOfNums (pack F)) F := by
  refine ⟨fun q => ?_, ?_, ?_⟩
  · unfold tb
    rw [bytesOf_nums _ (pack_in F), bit_pack]
  · rw [size_nums, pack_length]; omega
  · rw [size_nums, pack_length]; omega
theorem bits_of {s : ByteArray} {F A C R : List Bool} (h : Holds s F) (e : F = A ++ C ++ R) : bitsAt s A.length C.length = C := by
  apply List.ext_getElem?
  intro i
  unfold bitsAt
  by_cases hi : i < C.length
  · rw [List.getElem?_map, List.getElem?_range hi, Option.map_some, h.bit, e, List.getD_eq_getElem?_getD, List.append_assoc, List.getElem?_append_right (by omega), List.getElem?_append_left (by omega), show A.length + i - A.length = i by omega, List.getElem?_eq_getElem hi]
    rfl
  · rw [List.getElem?_eq_none (by simp; omega), List.getElem?_eq_none (by omega)]
theorem zeros_is (s : ByteArray) : ∀ (n p m : Nat), (∀ i, i < n → tb s (p + i) = false) → tb s (p + n) = true → n < m → zeros s p m = n
  | 0, p, m, _, h1, hm => by
    obtain ⟨m, rfl⟩ : ∃ j, m = j + 1 := ⟨m - 1, by omega⟩
    rw [zeros, if_pos (by simpa using h1)]
  | n + 1, p, m, h0, h1, hm => by
    obtain ⟨m, rfl⟩ : ∃ j, m = j + 1 := ⟨m - 1, by omega⟩
    have hb : tb s p = false := by simpa using h0 0 (by omega)
    rw [zeros, if_neg (by rw [hb]; decide), zeros_is s n (p + 1) m (fun i hi => by have := h0 (i + 1) (by omega); rw [show p + 1 + i = p + (i + 1) by omega]; exact this) (by rw [show p + 1 + n = p + (n + 1) by omega]; exact h1) (by omega)]
theorem unary_of {s : ByteArray} {F A R : List Bool} {n : Nat} (h : Holds s F) (e : F = A ++ (List.replicate n false ++ [true]) ++ R) (hn : n ≤ 16777216) : unaryR s A.length = (n, 0, A.length + (n + 1)) := by
  have hlen : F.length = A.length + (n + 1) + R.length := by rw [e]; simp; omega
  have hz : zeros s A.length (8 * s.size - A.length) = n := by
    refine zeros_is s n A.length _ (fun i hi => ?_) ?_ (by have := h.len; omega)
    · rw [h.bit, e, List.getD_eq_getElem?_getD, List.append_assoc, List.getElem?_append_right (by omega), List.append_assoc, List.getElem?_append_left (by simp; omega), show A.length + i - A.length = i by omega, List.getElem?_replicate, if_pos hi]
      rfl
    · rw [h.bit, e, List.getD_eq_getElem?_getD, List.append_assoc, List.getElem?_append_right (by omega), List.append_assoc, List.getElem?_append_right (by simp), List.length_replicate, show A.length + n - A.length - n = 0 by omega]
      rfl
  unfold unaryR
  rw [hz, if_neg (by omega), if_neg (by have := h.len; omega)]
  rfl
theorem get_of {s : ByteArray} {F A C R : List Bool} (h : Holds s F) (e : F = A ++ C ++ R) (hC : C.length ≤ 64) : getR s A.length (C.length : Nat) = (natOf C, 0, A.length + C.length) := by
  have hlen : F.length = A.length + C.length + R.length := by rw [e]; simp; omega
  unfold getR
  rw [if_neg (by omega), if_neg (by have := h.len; omega), Int.toNat_natCast]
  unfold numAt
  rw [bits_of h e]
theorem sign_of (n : Int) (K : Nat) (h : fitsP n K) : signOf (wordN n % 2 ^ K) K = n := by
  obtain ⟨h1, h2, h3, h4⟩ := h
  have hK : (K : Int) - 1 = ((K - 1 : Nat) : Int) := by omega
  rw [hK, Int.toNat_natCast] at h3 h4
  have e1 : (2 : Int) ^ (K - 1) = ((2 ^ (K - 1) : Nat) : Int) := (Int.natCast_pow 2 (K - 1)).symm
  have e2 : 2 ^ K = 2 * 2 ^ (K - 1) := by
    have := Nat.pow_succ 2 (K - 1)
    rw [show (K - 1).succ = K by omega] at this
    omega
  have hd : (2 ^ K : Nat) ∣ 2 ^ 64 := Nat.pow_dvd_pow 2 (by omega)
  have hw : ((wordN n % 2 ^ K : Nat) : Int) = n % ((2 ^ K : Nat) : Int) := by
    rw [Int.natCast_emod]
    have : ((wordN n : Nat) : Int) = n % 18446744073709551616 := by unfold wordN; omega
    rw [this]
    exact Int.emod_emod_of_dvd n (show ((2 ^ K : Nat) : Int) ∣ ((2 ^ 64 : Nat) : Int) from Int.natCast_dvd_natCast.2 hd)
  have e3 : (2 : Int) ^ K = ((2 ^ K : Nat) : Int) := (Int.natCast_pow 2 K).symm
  unfold signOf
  rw [e3]
  rw [e1] at h3 h4
  generalize wordN n % 2 ^ K = y at hw ⊢
  rw [e2] at hw ⊢
  generalize 2 ^ (K - 1) = X at hw h3 h4 ⊢
  by_cases hn : 0 ≤ n
  · rw [Int.emod_eq_of_lt hn (by omega)] at hw
    rw [if_pos (by omega)]
    exact hw
  · have : n % ((2 * X : Nat) : Int) = n + ((2 * X : Nat) : Int) := by
      rw [← Int.add_emod_right, Int.emod_eq_of_lt (by omega) (by omega)]
    rw [this] at hw
    rw [if_neg (by omega)]
    omega
theorem read_signed {s : ByteArray} {F A R : List Bool} (d : Deed) (h : Holds s F) (e : F = A ++ codeD A.length d ++ R) (hk : d.k = 1) (ho : okDeed d) : signedR s A.length d.w = (d.n, 0, A.length + (codeD A.length d).length) := by
  unfold okDeed at ho
  rw [if_neg (by omega), if_pos hk] at ho
  have hc : codeD A.length d = nbits (wordN d.n) d.w.toNat := by unfold codeD; rw [if_neg (by omega), if_pos hk]
  rw [hc] at e ⊢
  have h1 := ho.1
  have h2 := ho.2.1
  have hl := nbits_length (wordN d.n) d.w.toNat
  have hg := get_of h e (by rw [hl]; omega)
  rw [hl, natOf_nbits, Int.toNat_of_nonneg (by omega)] at hg
  unfold signedR
  rw [if_neg (by omega), hg]
  rw [if_pos rfl, hl, sign_of d.n d.w.toNat (by rw [Int.toNat_of_nonneg (by omega)]; exact ho)]
theorem read_rice {s : ByteArray} {F A R : List Bool} (d : Deed) (h : Holds s F) (e : F = A ++ codeD A.length d ++ R) (hk : d.k = 3) (ho : okDeed d) : riceR s A.length d.w = (d.n, 0, A.length + (codeD A.length d).length) := by
  unfold okDeed at ho
  rw [if_neg (by omega), if_neg (by omega), if_neg (by omega), if_pos hk] at ho
  have hc : codeD A.length d = riceB d.n d.w.toNat := by unfold codeD; rw [if_neg (by omega), if_neg (by omega), if_neg (by omega), if_pos hk]
  rw [hc] at e ⊢
  obtain ⟨h1, h2, h3⟩ := ho
  obtain ⟨K, hK⟩ : ∃ K : Nat, d.w.toNat = K := ⟨_, rfl⟩
  have hw : d.w = (K : Int) := by omega
  rw [hK] at h3 e ⊢
  have hq := Nat.div_add_mod (foldN d.n) (2 ^ K)
  have hu : F = A ++ (List.replicate (foldN d.n / 2 ^ K) false ++ [true]) ++ (nbits (foldN d.n) K ++ R) := by
    rw [e]
    unfold riceB
    simp
  have hA : F = (A ++ (List.replicate (foldN d.n / 2 ^ K) false ++ [true])) ++ nbits (foldN d.n) K ++ R := by rw [hu]; simp
  have r1 := unary_of h hu h3
  have hl := nbits_length (foldN d.n) K
  have r2 := get_of h hA (by rw [hl]; omega)
  have hla : (A ++ (List.replicate (foldN d.n / 2 ^ K) false ++ [true])).length = A.length + (foldN d.n / 2 ^ K + 1) := by simp
  rw [hla, hl, natOf_nbits] at r2
  unfold riceR
  rw [if_neg (by omega), r1]
  rw [if_pos rfl, hw, r2]
  rw [if_pos rfl, Int.toNat_natCast]
  have hlen : (riceB d.n K).length = foldN d.n / 2 ^ K + 1 + K := by unfold riceB; simp [nbits_length]; omega
  rw [hlen, show foldN d.n / 2 ^ K * 2 ^ K + foldN d.n % 2 ^ K = foldN d.n by rw [Nat.mul_comm]; exact hq, unfold_fold]
  refine Prod.ext rfl (Prod.ext rfl ?_)
  show A.length + (foldN d.n / 2 ^ K + 1) + K = A.length + (foldN d.n / 2 ^ K + 1 + K)
  omega
end Go.Proofs.Ytfhekkoibmlmpaa.Hand

/- The plain law of layer 8: what was written is read as it was. -/
namespace Go.Proofs.Ytfhekkoibmlmpaa.Hand
open Go.RowKit Go.Proofs.Ytfhekkoibmlmpaa.Q Go.Proofs.YtfhekkoibmlmpaaW.PrintWords Go.Proofs.YtfhekkoibmlmpaaW.PrintLast Go.Proofs.YtfhekkoibmlmpaaW.PrintMore
set_option linter.unusedVariables false
set_option linter.unusedSimpArgs false

theorem get_nat {s : ByteArray} {F A R : List Bool} (u K : Nat) (h : Holds s F) (e : F = A ++ nbits u K ++ R) (hK : K ≤ 64) (hu : u < 2 ^ K) : getR s A.length (K : Nat) = (u, 0, A.length + K) := by
  have hl := nbits_length u K
  have := get_of h e (by omega)
  rw [hl, natOf_nbits, Nat.mod_eq_of_lt hu] at this
  exact this
theorem one_back {s : ByteArray} {F A R : List Bool} (k e x : Int) (h : Holds s F) (hF : F = A ++ codeX k e x ++ R) (hm : mayOk k e x = true) (k0 : 0 ≤ k) (k1 : k ≤ 30) (e1 : e ≤ 31) :
    oneR s k e A.length = (x, 0, A.length + (codeX k e x).length) := by
  unfold mayOk at hm
  unfold oneR
  by_cases he : e < 0
  · have hc : codeX k e x = riceB x k.toNat := if_pos he
    rw [if_pos he] at hm
    have hd : codeD A.length ⟨3, k, x, 0⟩ = riceB x k.toNat := rfl
    rw [if_pos he, hc, ← hd]
    rw [hc, ← hd] at hF
    exact read_rice ⟨3, k, x, 0⟩ h hF rfl ⟨k0, k1, of_decide_eq_true hm⟩
  · rw [if_neg he] at hm ⊢
    by_cases he0 : 0 < e
    · have hc : codeX k e x = nbits (wordN x) e.toNat := (if_neg he).trans (if_pos he0)
      rw [if_pos he0] at hm
      have hd : codeD A.length ⟨1, e, x, 0⟩ = nbits (wordN x) e.toNat := rfl
      rw [if_pos he0, hc, ← hd]
      rw [hc, ← hd] at hF
      exact read_signed ⟨1, e, x, 0⟩ h hF rfl (of_decide_eq_true hm)
    · have hc : codeX k e x = [] := (if_neg he).trans (if_neg he0)
      rw [if_neg he0] at hm
      have hx : x = 0 := of_decide_eq_true hm
      rw [if_neg he0, hc, hx]
      rfl
theorem vals_back {s : ByteArray} {F : List Bool} (k e : Int) (h : Holds s F) (k0 : 0 ≤ k) (k1 : k ≤ 30) (e1 : e ≤ 31) : ∀ (xs : List Int) (A R : List Bool) (acc : List Int), F = A ++ bodyX k e xs ++ R → mayF xs k e = true →
    valsR s k e xs.length acc 0 A.length = (acc ++ xs, 0, A.length + (bodyX k e xs).length)
  | [], A, R, acc, hF, hm => by simp [valsR, bodyX]
  | x :: r, A, R, acc, hF, hm => by
    have h2 : mayOk k e x = true ∧ mayF r k e = true := by simpa [mayF] using hm
    have eb : bodyX k e (x :: r) = codeX k e x ++ bodyX k e r := by simp [bodyX]
    rw [eb] at hF ⊢
    have h1 := one_back (A := A) k e x h (R := bodyX k e r ++ R) (by rw [hF]; simp) h2.1 k0 k1 e1
    have ih := vals_back k e h k0 k1 e1 r (A ++ codeX k e x) R (acc ++ [x]) (by rw [hF]; simp) h2.2
    rw [List.length_cons]
    unfold valsR
    rw [if_pos rfl, h1]
    rw [List.length_append] at ih
    rw [ih]
    simp [Nat.add_assoc]
theorem head_back {s : ByteArray} {F A R : List Bool} (m : Nat) (k e : Int) (h : Holds s F) (hF : F = A ++ headX (4 + m) k e ++ R) (hm : m = 0 ∨ m = 1) (hok : okPE m k e) :
    headR s A.length (4 + m) = (k, e, 0, A.length + (headX (4 + m) k e).length) := by
  obtain ⟨k0, k1, e0, e1, hk⟩ := hok
  have hp : k.toNat < 2 ^ (4 + m) - 1 := by
    rcases hm with rfl | rfl
    · rw [if_neg (by decide)] at k1
      have : (2 : Nat) ^ (4 + 0) = 16 := by decide
      omega
    · rw [if_pos (by decide)] at k1
      have : (2 : Nat) ^ (4 + 1) = 32 := by decide
      omega
  have hW : 4 + m ≤ 64 := by omega
  generalize 4 + m = W at *
  unfold headR
  by_cases he : e < 0
  · have hc : headX W k e = nbits k.toNat W := if_pos he
    rw [hc] at hF ⊢
    rw [get_nat _ _ h hF hW (by omega), if_neg (by intro hh; have := hh.2; simp only at this; omega), nbits_length]
    refine Prod.ext ?_ (Prod.ext ?_ rfl)
    · show ((k.toNat : Nat) : Int) = k
      omega
    · show (-1 : Int) = e
      omega
  · have hc : headX W k e = nbits (2 ^ W - 1) W ++ nbits e.toNat 5 := if_neg he
    rw [hc] at hF ⊢
    have hp2 := Nat.two_pow_pos W
    have g1 := get_nat (A := A) (R := nbits e.toNat 5 ++ R) _ _ h (by rw [hF]; simp) hW (show 2 ^ W - 1 < 2 ^ W by omega)
    have g2 := get_nat (A := A ++ nbits (2 ^ W - 1) W) (R := R) e.toNat 5 h (by rw [hF]; simp) (by decide) (by omega)
    rw [List.length_append, nbits_length] at g2
    rw [g1, if_pos ⟨rfl, rfl⟩]
    simp only
    have g2' : getR s (A.length + W) 5 = (e.toNat, 0, A.length + W + 5) := g2
    rw [g2', List.length_append, nbits_length, nbits_length]
    refine Prod.ext ?_ (Prod.ext ?_ (Prod.ext rfl ?_))
    · show (0 : Int) = k
      exact (hk (by omega)).symm
    · show ((e.toNat : Nat) : Int) = e
      omega
    · show A.length + W + 5 = A.length + (W + 5)
      omega
theorem part_back {s : ByteArray} {F A R : List Bool} (m n order : Nat) (ps es l : List Int) (i : Nat) (h : Holds s F) (hF : F = A ++ partX (4 + m) n order ps es l i ++ R) (hm : m = 0 ∨ m = 1) (hok : okPE m (rd ps (i : Int)) (rd es (i : Int)))
    (hmay : mayF (partL l n order i) (rd ps (i : Int)) (rd es (i : Int)) = true) :
    partR s A.length (partL l n order i).length (4 + m) = (partL l n order i, rd ps (i : Int), rd es (i : Int), 0, A.length + (partX (4 + m) n order ps es l i).length) := by
  unfold partX at hF ⊢
  have k1 : rd ps (i : Int) ≤ 30 := by
    have := hok.2.1
    split at this <;> omega
  have h1 := head_back (A := A) (R := bodyX (rd ps (i : Int)) (rd es (i : Int)) (partL l n order i) ++ R) m _ _ h (by rw [hF]; simp) hm hok
  have h2 := vals_back (rd ps (i : Int)) (rd es (i : Int)) h hok.1 k1 hok.2.2.2.1 (partL l n order i) (A ++ headX (4 + m) (rd ps (i : Int)) (rd es (i : Int))) R [] (by rw [hF]; simp) hmay
  unfold partR
  rw [h1]
  simp only
  rw [List.length_append] at h2
  rw [h2]
  simp [Nat.add_assoc]
end Go.Proofs.Ytfhekkoibmlmpaa.Hand

/- The plain law of layer 8: what was written is read as it was; the partitions one behind the other. -/
namespace Go.Proofs.Ytfhekkoibmlmpaa.Hand
open Go.RowKit Go.Proofs.Ytfhekkoibmlmpaa.Q Go.Proofs.YtfhekkoibmlmpaaW.PrintWords Go.Proofs.YtfhekkoibmlmpaaW.PrintLast Go.Proofs.YtfhekkoibmlmpaaW.PrintMore
set_option linter.unusedVariables false
set_option linter.unusedSimpArgs false

theorem partL_is (l : List Int) (n order cnt i : Nat) (hl : l.length + order = cnt * n) (hon : order ≤ n) (hi : i < cnt) : (partL l n order i).length = (if i = 0 then n - order else n) := by
  have h1 : (i + 1) * n ≤ cnt * n := Nat.mul_le_mul_right n hi
  have e1 : (i + 1) * n = i * n + n := Nat.succ_mul i n
  unfold partL
  rw [List.length_drop, List.length_take, e1]
  by_cases h0 : i = 0
  · subst h0
    rw [if_pos rfl]
    simp
    omega
  · rw [if_neg h0]
    have h2 : 1 * n ≤ i * n := Nat.mul_le_mul_right n (by omega)
    omega
theorem take_part (l : List Int) (n order i : Nat) : l.take (i * n - order) ++ partL l n order i = l.take ((i + 1) * n - order) := by
  have e1 : (i + 1) * n = i * n + n := Nat.succ_mul i n
  unfold partL
  have e2 := List.take_append_drop (i * n - order) (l.take ((i + 1) * n - order))
  rw [List.take_take, Nat.min_eq_left (by omega)] at e2
  exact e2
theorem take_rd (xs : List Int) (i : Nat) (h : i < xs.length) : xs.take i ++ [rd xs (i : Int)] = xs.take (i + 1) := by
  rw [List.take_succ_eq_append_getElem h]
  simp [rd, h]
theorem decL_back {s : ByteArray} {F : List Bool} (m n order cnt : Nat) (ps es l : List Int) (h : Holds s F) (hm : m = 0 ∨ m = 1) (hl : l.length + order = cnt * n) (hon : order ≤ n) (hps : ps.length = cnt) (hes : es.length = cnt)
    (hok : ∀ i : Nat, i < cnt → okPE m (rd ps (i : Int)) (rd es (i : Int))) (hall : allMay n order ps es l cnt = true) :
    ∀ (d i : Nat) (A R : List Bool), i + d = cnt → F = A ++ (List.range' i d).flatMap (partX (4 + m) n order ps es l) ++ R →
      decL s n order (4 + m) d i (l.take (i * n - order)) (ps.take i) (es.take i) A.length = some (l, ps, es, A.length + ((List.range' i d).flatMap (partX (4 + m) n order ps es l)).length)
  | 0, i, A, R, hi, hF => by
    have : i = cnt := by omega
    subst this
    unfold decL
    rw [List.take_of_length_le (by omega), List.take_of_length_le (by omega), List.take_of_length_le (by omega)]
    simp
  | d + 1, i, A, R, hi, hF => by
    have hlt : i < cnt := by omega
    have er : (List.range' i (d + 1)).flatMap (partX (4 + m) n order ps es l) = partX (4 + m) n order ps es l i ++ (List.range' (i + 1) d).flatMap (partX (4 + m) n order ps es l) := by
      rw [List.range'_succ, List.flatMap_cons]
    rw [er] at hF ⊢
    have h1 := part_back (A := A) (R := (List.range' (i + 1) d).flatMap (partX (4 + m) n order ps es l) ++ R) m n order ps es l i h (by rw [hF]; simp) hm (hok i hlt) (allMay_at hall i hlt)
    have ih := decL_back m n order cnt ps es l h hm hl hon hps hes hok hall d (i + 1) (A ++ partX (4 + m) n order ps es l i) R (by omega) (by rw [hF]; simp)
    rw [partL_is l n order cnt i hl hon hlt] at h1
    unfold decL
    rw [h1]
    rw [if_pos rfl]
    simp only
    rw [take_part, take_rd ps i (by omega), take_rd es i (by omega)]
    rw [List.length_append] at ih
    rw [ih]
    simp [Nat.add_assoc]
end Go.Proofs.Ytfhekkoibmlmpaa.Hand

/- The plain law of layer 8: what was written is read as it was; the whole. -/
namespace Go.Proofs.Ytfhekkoibmlmpaa.Hand
open Go.RowKit Go.Proofs.Ytfhekkoibmlmpaa.Q Go.Proofs.YtfhekkoibmlmpaaW.PrintWords Go.Proofs.YtfhekkoibmlmpaaW.PrintLast Go.Proofs.YtfhekkoibmlmpaaW.PrintMore
set_option linter.unusedVariables false
set_option linter.unusedSimpArgs false

theorem dec_back {s : ByteArray} {F A R : List Bool} (m o block order : Int) (ps es l : List Int) (h : Holds s F) (hF : F = A ++ bitsE m o ps es block order l ++ R) (hc : canE m o ps es block order l) :
    decF s A.length block order = (m, o, l, ps, es, 0, A.length + (bitsE m o ps es block order l).length) := by
  obtain ⟨⟨hsh, hps, hes, hok⟩, hlen, hall⟩ := hc
  have hsh0 := hsh
  obtain ⟨O, Bk, Od, n, rfl, rfl, rfl, hO15, hB0, hB1, hOd, hdiv, hdn, hn, hm⟩ := shape_nat hsh
  rw [Int.toNat_natCast] at hps hes
  have hbits : bitsE m O ps es Bk Od l = nbits m.toNat 2 ++ (nbits O 4 ++ partsX (4 + m.toNat) n Od ps es l (2 ^ O)) := by
    unfold bitsE
    rw [hn, hps, Int.toNat_natCast, Int.toNat_natCast]
  rw [hbits] at hF ⊢
  obtain ⟨M, rfl⟩ := Int.eq_ofNat_of_zero_le (show 0 ≤ m by omega)
  rw [Int.toNat_natCast] at hF ⊢
  rw [hn, Int.toNat_natCast, hps] at hall
  have g1 := get_nat (A := A) (R := (nbits O 4 ++ partsX (4 + M) n Od ps es l (2 ^ O)) ++ R) M 2 h (by rw [hF]; simp) (by decide) (by omega)
  have g2 := get_nat (A := A ++ nbits M 2) (R := partsX (4 + M) n Od ps es l (2 ^ O) ++ R) O 4 h (by rw [hF]; simp) (by decide) (by omega)
  have g3 := decL_back M n Od (2 ^ O) ps es l h (by omega) (by omega) hdn hps hes (fun i hi => hok i (by omega)) hall (2 ^ O) 0 ((A ++ nbits M 2) ++ nbits O 4) R (by omega) (by rw [hF, ← List.range_eq_range']; unfold partsX; simp)
  rw [List.length_append, nbits_length] at g2
  rw [List.length_append, List.length_append, nbits_length, nbits_length, ← List.range_eq_range'] at g3
  have g1' : getR s A.length 2 = (M, 0, A.length + 2) := g1
  have g2' : getR s (A.length + 2) 4 = (O, 0, A.length + 2 + 4) := g2
  unfold decF
  rw [if_neg (by unfold badArgs; omega), if_pos (by unfold headD; rw [g1']; simp only; rw [g2']; exact ⟨trivial, rfl, hsh0⟩)]
  have hX : decX s A.length Bk Od = some (l, ps, es, A.length + 2 + 4 + (partsX (4 + M) n Od ps es l (2 ^ O)).length) := by
    unfold decX
    rw [g1']
    simp only
    rw [g2']
    simp only
    rw [Int.toNat_natCast] at hn
    rw [hn, Int.toNat_natCast]
    rw [Nat.zero_mul, Nat.zero_sub, List.take_zero, List.take_zero, List.take_zero] at g3
    exact g3
  rw [hX, g1']
  simp only
  rw [g2']
  simp only [nbits_length, List.length_append, Prod.mk.injEq, true_and]
  omega
end Go.Proofs.Ytfhekkoibmlmpaa.Hand

/- Plain words of layer 8: the bits of Rice codes, the best parameter, the best recipe; what the printed functions come to. -/
namespace Go.Proofs.Ytfhekkoibmlmpaa.Hand
open Go.RowKit Go.Proofs.Ytfhekkoibmlmpaa.Q Go.Proofs.YtfhekkoibmlmpaaW.PrintWords Go.Proofs.YtfhekkoibmlmpaaW.PrintLast Go.Proofs.YtfhekkoibmlmpaaW.PrintMore
set_option linter.unusedVariables false
set_option linter.unusedSimpArgs false

def cstR (K : Nat) : List Int → Int → Int
  | [], acc => acc
  | x :: r, acc => if 16777216 < foldN x / 2 ^ K then -1 else cstR K r (acc + ((foldN x / 2 ^ K : Nat) : Int))
/-- How many bits the Rice codes of a list have; -1: there are none. -/
def costF (l : List Int) (k : Int) : Int := if k < 0 ∨ 30 < k then -1 else cstR k.toNat l ((l.length : Int) * (1 + k))
theorem cstR_range (K : Nat) : ∀ (l : List Int) (acc : Int), 0 ≤ acc → cstR K l acc = -1 ∨ (acc ≤ cstR K l acc ∧ cstR K l acc ≤ acc + 16777216 * l.length)
  | [], acc, h => .inr ⟨Int.le_refl _, by simp [cstR]⟩
  | x :: r, acc, h => by
    unfold cstR
    generalize foldN x / 2 ^ K = u
    by_cases hx : 16777216 < u
    · rw [if_pos hx]
      exact .inl rfl
    · rw [if_neg hx]
      rcases cstR_range K r (acc + (u : Int)) (by omega) with h1 | ⟨h1, h2⟩
      · exact .inl h1
      · right
        rw [List.length_cons]
        omega
theorem shr_u (f K : Nat) (hK : K ≤ 64) : shr .u64 (f : Int) (K : Int) = ((f / 2 ^ K : Nat) : Int) := by
  have e : shr .u64 (f : Int) (K : Int) = (f : Int) / 2 ^ min ((K : Int)).toNat 64 := rfl
  rw [e, Int.toNat_natCast, Nat.min_eq_left hK]
  simp
theorem cost_l0 (l : List Int) (K : Nat) (hK : K ≤ 30) (hl : l.length ≤ 65535) (hin : ∀ x ∈ l, -9223372036854775808 ≤ x ∧ x ≤ 9223372036854775807) : ∀ (d i : Nat) (acc : Int), i + d = l.length → 0 ≤ acc → acc ≤ 4000000 + 16777216 * i →
    Ev (fun k => rice_Cost.l0 k (K : Nat) acc l (l.length : Nat) (i : Nat)) (cstR K (l.drop i) acc)
  | 0, i, acc, hi, h0, h1 => by
    rw [List.drop_eq_nil_of_le (by omega)]
    refine Ev.step (f := fun _ => some acc) (fun k => ?_) (Ev.now _)
    simp only [rice_Cost.l0]
    rw [if_neg (by omega)]
  | d + 1, i, acc, hi, h0, h1 => by
    have hlt : i < l.length := by omega
    have hrd : rd l (i : Nat) = l[i] := by simp [rd, hlt]
    obtain ⟨x0, x1⟩ := hin _ (rd_mem l i hlt)
    have hf : shr .u64 (Go.bits .xor .u64 (IntKind.u64.wrap ((IntKind.u64.wrap (rd l (i : Nat))) * 2)) (IntKind.u64.wrap ((rd l (i : Nat)) / 9223372036854775808))) (K : Int) = ((foldN (rd l (i : Nat)) / 2 ^ K : Nat) : Int) := by
      rw [fold_bits _ x0 x1, shr_u _ _ (by omega)]
    rw [List.drop_eq_getElem_cons hlt, ← hrd]
    have ih := cost_l0 l K hK hl hin d (i + 1)
    unfold cstR
    generalize hx : rd l (i : Nat) = x at hf
    generalize foldN x / 2 ^ K = u at hf
    have key : ∀ k, rice_Cost.l0 (k + 1) (K : Nat) acc l (l.length : Nat) (i : Nat) = if (u : Int) > 16777216 then some (-1) else rice_Cost.l0 k (K : Nat) (wrap64 (acc + wrap64 (u : Int))) l (l.length : Nat) (wrap64 ((i : Int) + 1)) := fun k => by
      conv => lhs; simp only [rice_Cost.l0]
      rw [if_pos (by omega), if_pos (by omega), if_pos (by omega), if_pos (by omega), hx, hf]
    by_cases hu : 16777216 < u
    · rw [if_pos hu]
      exact Ev.step (f := fun _ => some (-1)) (fun k => by rw [key k, if_pos (by omega)]) (Ev.now _)
    · rw [if_neg hu]
      refine Ev.step (fun k => ?_) (ih (acc + (u : Int)) (by omega) (by omega) (by omega))
      rw [key k, if_neg (by omega), w64h (u : Int) (by omega) (by omega), w64h _ (by omega) (by omega), w64h _ (by omega) (by omega)]
      rfl
theorem cost_ev (l : List Int) (k : Int) (hl : l.length ≤ 65535) (hin : ∀ x ∈ l, -9223372036854775808 ≤ x ∧ x ≤ 9223372036854775807) : Ev (fun n => rice_Cost.f n l k) (costF l k) := by
  have hno : Ev (fun n => rice_Cost.j0 n l k true) (-1) := Ev.step (f := fun _ => some (-1)) (fun n => by simp only [rice_Cost.j0]; rw [if_pos trivial]) (Ev.now _)
  unfold costF
  by_cases h0 : k < 0
  · rw [if_pos (.inl h0)]
    exact Ev.congr (fun n => by unfold rice_Cost.f; rw [if_pos h0]) hno
  by_cases h1 : 30 < k
  · rw [if_pos (.inr h1)]
    exact Ev.congr (fun n => by unfold rice_Cost.f; rw [if_neg h0, decide_eq_true (by omega)]) hno
  rw [if_neg (by omega)]
  obtain ⟨K, rfl⟩ := Int.eq_ofNat_of_zero_le (show 0 ≤ k by omega)
  have hb : (l.length : Int) * (1 + (K : Int)) ≤ 65535 * 31 := Int.mul_le_mul (by omega) (by omega) (by omega) (by omega)
  have hb0 : 0 ≤ (l.length : Int) * (1 + (K : Int)) := Int.mul_nonneg (by omega) (by omega)
  rw [Int.toNat_natCast]
  have := cost_l0 l K (by omega) hl hin l.length 0 ((l.length : Int) * (1 + (K : Int))) (by omega) hb0 (by omega)
  rw [List.drop_zero] at this
  refine Ev.congr (f := fun n => rice_Cost.j0 n l (K : Int) false) (fun n => by unfold rice_Cost.f; rw [if_neg h0, decide_eq_false (by omega)]) (Ev.step (fun n => ?_) this)
  simp only [rice_Cost.j0]
  rw [if_neg (by decide), w64h (1 + (K : Int)) (by omega) (by omega), w64h _ (by omega) (by omega)]
  rfl
/-- The best parameter from one on. -/
def lstR (l : List Int) : Nat → Nat → Int × Int → Int × Int
  | 0, _, b => b
  | d + 1, k, b => lstR l d (k + 1) (if 0 ≤ costF l (k : Int) ∧ (b.2 < 0 ∨ costF l (k : Int) < b.2) then ((k : Int), costF l (k : Int)) else b)
def leastF (l : List Int) : Int × Int := lstR l 15 0 (0, -1)
theorem least_l0 (l : List Int) (hl : l.length ≤ 65535) (hin : ∀ x ∈ l, -9223372036854775808 ≤ x ∧ x ≤ 9223372036854775807) : ∀ (d k : Nat) (b : Int × Int), k + d = 15 → Ev (fun n => rice_least.l0 n l b.1 b.2 (k : Nat)) (lstR l d k b)
  | 0, k, b, hk => by
    refine Ev.step (f := fun _ => some b) (fun n => ?_) (Ev.now _)
    simp only [rice_least.l0]
    rw [if_neg (by omega)]
  | d + 1, k, b, hk => by
    unfold lstR
    have hc := cost_ev l (k : Int) hl hin
    generalize costF l (k : Int) = c at hc
    have ih := fun b => least_l0 l hl hin d (k + 1) b (by omega)
    refine Ev.step (f := fun n => (rice_Cost.f n l (k : Nat)).bind fun t => if t ≥ 0 then (if b.2 < 0 then rice_least.l0 n l (k : Nat) t ((k + 1 : Nat) : Int) else if t < b.2 then rice_least.l0 n l (k : Nat) t ((k + 1 : Nat) : Int) else rice_least.l0 n l b.1 b.2 ((k + 1 : Nat) : Int)) else rice_least.l0 n l b.1 b.2 ((k + 1 : Nat) : Int)) (fun n => ?_) (Ev.bind hc ?_)
    · simp only [rice_least.l0]
      rw [if_pos (by omega), w64h _ (by omega) (by omega)]
      rfl
    · by_cases h0 : c ≥ 0
      · by_cases h1 : b.2 < 0
        · rw [if_pos ⟨h0, .inl h1⟩]
          exact Ev.congr (fun n => by rw [if_pos h0, if_pos h1]) (ih ((k : Int), c))
        · by_cases h2 : c < b.2
          · rw [if_pos ⟨h0, .inr h2⟩]
            exact Ev.congr (fun n => by rw [if_pos h0, if_neg h1, if_pos h2]) (ih ((k : Int), c))
          · rw [if_neg (by omega)]
            exact Ev.congr (fun n => by rw [if_pos h0, if_neg h1, if_neg h2]) (ih b)
      · rw [if_neg (by omega)]
        exact Ev.congr (fun n => by rw [if_neg h0]) (ih b)
theorem least_ev (l : List Int) (hl : l.length ≤ 65535) (hin : ∀ x ∈ l, -9223372036854775808 ≤ x ∧ x ≤ 9223372036854775807) : Ev (fun n => rice_least.f n l) (leastF l) := least_l0 l hl hin 15 0 (0, -1) (by omega)
theorem cost_range (l : List Int) (k : Int) (hl : l.length ≤ 65535) : -1 ≤ costF l k ∧ costF l k ≤ 1100000000000 := by
  unfold costF
  split
  · omega
  · obtain ⟨K, rfl⟩ := Int.eq_ofNat_of_zero_le (show 0 ≤ k by omega)
    have hb : (l.length : Int) * (1 + (K : Int)) ≤ 65535 * 31 := Int.mul_le_mul (by omega) (by omega) (by omega) (by omega)
    have hb0 : 0 ≤ (l.length : Int) * (1 + (K : Int)) := Int.mul_nonneg (by omega) (by omega)
    rcases cstR_range (K : Int).toNat l _ hb0 with h | ⟨h1, h2⟩ <;> omega
theorem lst_range (l : List Int) (hl : l.length ≤ 65535) : ∀ d k b, k + d = 15 → (0 ≤ b.1 ∧ b.1 ≤ 14 ∧ -1 ≤ b.2 ∧ b.2 ≤ 1100000000000) → (0 ≤ (lstR l d k b).1 ∧ (lstR l d k b).1 ≤ 14 ∧ -1 ≤ (lstR l d k b).2 ∧ (lstR l d k b).2 ≤ 1100000000000)
  | 0, k, b, hk, h => h
  | d + 1, k, b, hk, h => by
    unfold lstR
    have hc := cost_range l (k : Int) hl
    refine lst_range l hl d (k + 1) _ (by omega) ?_
    split
    · exact ⟨by omega, by omega, hc⟩
    · exact h
theorem least_range (l : List Int) (hl : l.length ≤ 65535) : 0 ≤ (leastF l).1 ∧ (leastF l).1 ≤ 14 ∧ -1 ≤ (leastF l).2 ∧ (leastF l).2 ≤ 1100000000000 := lst_range l hl 15 0 (0, -1) (by omega) (by decide)
end Go.Proofs.Ytfhekkoibmlmpaa.Hand

/- Contracts of layer 8, proved by hand: try. -/
namespace Go.Proofs.Ytfhekkoibmlmpaa.Hand
open Go.RowKit Go.Proofs.Ytfhekkoibmlmpaa.Q Go.Proofs.YtfhekkoibmlmpaaW.PrintWords Go.Proofs.YtfhekkoibmlmpaaW.PrintLast Go.Proofs.YtfhekkoibmlmpaaW.PrintMore
set_option linter.unusedVariables false
set_option linter.unusedSimpArgs false

/-- Partitions from one on, each with its best parameter. -/
def tryL (l : List Int) (n order : Nat) : Nat → Nat → Int → List Int → List Int → Option (Int × List Int × List Int)
  | 0, _, sum, ps, es => some (sum, ps, es)
  | d + 1, i, sum, ps, es => if (leastF (partL l n order i)).2 < 0 then none else tryL l n order d (i + 1) (sum + (4 + (leastF (partL l n order i)).2)) (ps ++ [(leastF (partL l n order i)).1]) (es ++ [-1])
structure TrySt (w : World) (b8 b10 : Nat) (o : Int) (wr : World) (vP vE : Value) (ps es : List Int) : Prop where
  bel : Below w.heap.size w wr
  z8 : wr.heap[b8]? = some (.cells zRice 24 (0, 0))
  r10 : wr.heap[b10]? = some (.cells #[.int .i64 0, .int .i64 o, vP, vE] 24 (0, 0))
  P : IntsAt wr w.heap.size vP ps
  E : IntsAt wr w.heap.size vE es
  d3 : Dis vP vE
theorem TrySt.below {w : World} {b8 b10 : Nat} {o : Int} {wr w' : World} {vP vE : Value} {ps es : List Int} (h : TrySt w b8 b10 o wr vP vE ps es) (hb : Below wr.heap.size wr w') : TrySt w b8 b10 o w' vP vE ps es :=
  ⟨h.bel.trans (hb.mono h.bel.size), blk_below h.z8 hb, blk_below h.r10 hb, h.P.below hb, h.E.below hb, h.d3⟩
theorem TrySt.two {w : World} {b8 b10 : Nat} {o o' : Int} {W0 W : World} {vP vE vP' vE' : Value} {ps es ps' es' : List Int} (h : TrySt w b8 b10 o W0 vP vE ps es) (h8 : b8 ≠ b10)
    (ht : TwoRows w.heap.size b10 24 W0 vP vE W #[.int .i64 0, .int .i64 o', vP', vE'] vP' vE' ps' es') : TrySt w b8 b10 o' W vP' vE' ps' es' := by
  refine ⟨h.bel.trans ht.below, blk_kept h.z8 ht.kept (fun hn => ?_), ht.box, ht.P, ht.E, ht.dis⟩
  rcases hn with e | e | e
  · exact h8 e
  · exact (Kd.R_ne h.P.all h.z8 (by decide)) e.symm
  · exact (Kd.R_ne h.E.all h.z8 (by decide)) e.symm
/-- How try ends. -/
def TryPost (o : Int) (X : Option (Int × List Int × List Int)) (C : Nat) (w : World) (e : Ending) (w' : World) : Prop :=
  (X = none ∧ e = .returned (.tuple #[.agg zRice, .int .i64 (-1)]) ∧ Below C w w') ∨
  ∃ sum ps es vP vE, X = some (sum, ps, es) ∧ e = .returned (.tuple #[.agg #[.int .i64 0, .int .i64 o, vP, vE], .int .i64 sum]) ∧ IntsAt w' C vP ps ∧ IntsAt w' C vE es ∧ Below C w w'
set_option maxHeartbeats 16000000 in
set_option maxRecDepth 100000 in
theorem try_no (o block order : Int) (l : List Int) (A : Option Addr) (c : Nat) (w : World) (h : ¬ shapeP 0 o block order ∨ (shapeP 0 o block order ∧ (l.length : Int) ≠ block - order)) :
    Calls Try.prog 46 #[.int .i64 o, .int .i64 block, .int .i64 order, .slice A l.length c] w fun e w' => e = .returned (.tuple #[.agg zRice, .int .i64 (-1)]) ∧ Below w.heap.size w w' := by
  have HCS : Aside0 (∀ W, Calls Try.prog 39 #[.agg #[.int .i64 0, .int .i64 o, .slice none 0 0, .slice none 0 0], .int .i64 block, .int .i64 order] W fun e w' => e = .returned (.bool (decide (shapeP 0 o block order))) ∧ Below W.heap.size W w') := ⟨fun W =>
    rice_shape.calls 0 o none 0 [] none 0 [] block order _ W ⟨rfl, by decide, fun h => absurd h (Nat.lt_irrefl _)⟩ (Nat.le_refl _) ⟨rfl, by decide, fun h => absurd h (Nat.lt_irrefl _)⟩ (Nat.le_refl _) (shape_eq 0 o [] [] block order (by omega) (by omega))⟩
  have hb1 : Below w.heap.size w ((w.alloc (.cells zRice 24 (0, 0))).alloc (.cells zRice 24 (0, 0))) := below_alloc (below_alloc (Below.refl _ _) _) _
  have hz : ((w.alloc (.cells zRice 24 (0, 0))).alloc (.cells zRice 24 (0, 0))).heap[w.heap.size]? = some (.cells zRice 24 (0, 0)) := blk_alloc (blk_new w _) _
  have hx : ((w.alloc (.cells zRice 24 (0, 0))).alloc (.cells zRice 24 (0, 0))).heap[w.heap.size + 1]? = some (.cells zRice 24 (0, 0)) := by simpa using blk_new (w.alloc (.cells zRice 24 (0, 0))) (.cells zRice 24 (0, 0))
  have HB1 := Aside0.mk (below_setRow hb1 (Nat.le_succ _) #[.int .i64 0, .int .i64 o, .slice none 0 0, .slice none 0 0])
  have HX1 := Aside0.mk (setRow_heap _ _ _ #[.int .i64 0, .int .i64 o, .slice none 0 0, .slice none 0 0] _ _ hx)
  have HZ1 : Aside0 (((((w.alloc (.cells zRice 24 (0, 0))).alloc (.cells zRice 24 (0, 0))).setRow (w.heap.size + 1) #[.int .i64 0, .int .i64 o, .slice none 0 0, .slice none 0 0]).heap[w.heap.size]?) = some (.cells zRice 24 (0, 0))) := ⟨by rw [setRow_other _ _ _ _ (by omega)]; exact hz⟩
  have HX := Aside0.mk hx
  clear hb1 hz hx
  have h2 : decide (shapeP 0 o block order) = false ∨ (decide (shapeP 0 o block order) = true ∧ (l.length : Int) ≠ block - order ∧ 1 ≤ block ∧ block ≤ 65535 ∧ 0 ≤ order ∧ order ≤ 32) := by
    rcases h with h | ⟨h, h9⟩
    · exact .inl (decide_eq_false h)
    · exact .inr ⟨decide_eq_true h, h9, h.2.2.2.1, h.2.2.2.2.1, h.2.2.2.2.2.1, h.2.2.2.2.2.2.1⟩
  clear h
  generalize decide (shapeP 0 o block order) = sb at HCS h2
  rcases h2 with rfl | ⟨rfl, h9, b0, b1, d0, d1⟩
  · go_enter Try.func46, Try.ntmps46
    go_upto_region 2 with ((with_reducible refine wpList_store_row ?_ 24 (.tmp 10) (.tmp 16) ?_ (w.heap.size + 1) #[.int .i64 0, .int .i64 o, .slice none 0 0, .slice none 0 0] ?_ ?_ 24 zRice HX.out (rc_info _ _ _ _) ?_ (rc_one _ _ _ _ _ _ _ _) ?_); rfl; rfl; rfl; rfl; rfl)
    generalize ((w.alloc (.cells zRice 24 (0, 0))).alloc (.cells zRice 24 (0, 0))).setRow (w.heap.size + 1) #[.int .i64 0, .int .i64 o, .slice none 0 0, .slice none 0 0] = w1 at *
    have c0 := blk_cell HX1.out 0
    have c1 := blk_cell HX1.out 1
    have c2 := blk_cell HX1.out 2
    have c3 := blk_cell HX1.out 3
    go_wp2_with fail
    with_reducible refine (HCS.out _).mono ?_
    rintro e w2 ⟨rfl, hb2⟩
    have HZ2 := Aside0.mk (blk_below HZ1.out hb2)
    have HB2 := Aside0.mk (HB1.out.trans (hb2.mono HB1.out.size))
    clear hb2 c0 c1 c2 c3 HX1 HZ1 HB1 HCS HX
    go_wp2_with ((with_reducible refine wpList_store_row ?_ 24 (.tmp 8) (.tmp 30) ?_ w.heap.size zRice ?_ ?_ 24 zRice HZ2.out (rc_info _ _ _ _) ?_ (rc_one _ _ _ _ _ _ _ _) ?_); rfl; rfl; rfl; rfl; rfl)
    refine bodyPost_ret (results_ct rfl _ _ w.heap.size 24 zRice (0, 0) _ rfl (setRow_heap _ _ _ _ _ _ HZ2.out) Try.underlying24 rfl (rc_info _ _ _ _)) rfl ?_
    exact ⟨rfl, below_setRow HB2.out (Nat.le_refl _) _⟩
  · have hne : ((l.length : Int) != block - order) = true := bne_iff_ne.mpr h9
    clear h9
    go_enter Try.func46, Try.ntmps46
    go_upto_region 2 with ((with_reducible refine wpList_store_row ?_ 24 (.tmp 10) (.tmp 16) ?_ (w.heap.size + 1) #[.int .i64 0, .int .i64 o, .slice none 0 0, .slice none 0 0] ?_ ?_ 24 zRice HX.out (rc_info _ _ _ _) ?_ (rc_one _ _ _ _ _ _ _ _) ?_); rfl; rfl; rfl; rfl; rfl)
    generalize ((w.alloc (.cells zRice 24 (0, 0))).alloc (.cells zRice 24 (0, 0))).setRow (w.heap.size + 1) #[.int .i64 0, .int .i64 o, .slice none 0 0, .slice none 0 0] = w1 at *
    have c0 := blk_cell HX1.out 0
    have c1 := blk_cell HX1.out 1
    have c2 := blk_cell HX1.out 2
    have c3 := blk_cell HX1.out 3
    go_wp2_with fail
    with_reducible refine (HCS.out _).mono ?_
    rintro e w2 ⟨rfl, hb2⟩
    have HZ2 := Aside0.mk (blk_below HZ1.out hb2)
    have HB2 := Aside0.mk (HB1.out.trans (hb2.mono HB1.out.size))
    clear hb2 c0 c1 c2 c3 HX1 HZ1 HB1 HCS HX
    go_wp2_with ((with_reducible refine wpList_store_row ?_ 24 (.tmp 8) (.tmp 30) ?_ w.heap.size zRice ?_ ?_ 24 zRice HZ2.out (rc_info _ _ _ _) ?_ (rc_one _ _ _ _ _ _ _ _) ?_); rfl; rfl; rfl; rfl; rfl)
    refine bodyPost_ret (results_ct rfl _ _ w.heap.size 24 zRice (0, 0) _ rfl (setRow_heap _ _ _ _ _ _ HZ2.out) Try.underlying24 rfl (rc_info _ _ _ _)) rfl ?_
    exact ⟨rfl, below_setRow HB2.out (Nat.le_refl _) _⟩
end Go.Proofs.Ytfhekkoibmlmpaa.Hand

/- Contracts of layer 8, proved by hand: try, where the shape may be. -/
namespace Go.Proofs.Ytfhekkoibmlmpaa.Hand
open Go.RowKit Go.Proofs.Ytfhekkoibmlmpaa.Q Go.Proofs.YtfhekkoibmlmpaaW.PrintWords Go.Proofs.YtfhekkoibmlmpaaW.PrintLast Go.Proofs.YtfhekkoibmlmpaaW.PrintMore
set_option linter.unusedVariables false
set_option linter.unusedSimpArgs false

set_option maxHeartbeats 16000000 in
set_option maxRecDepth 100000 in
theorem try_go (O Bk Od n : Nat) (l : List Int) (A : Option Addr) (c : Nat) (w : World) (hsh : shapeP 0 O Bk Od) (hO : O ≤ 15) (hB : Bk ≤ 65535) (hd : Od ≤ 32) (hdiv : Bk = 2 ^ O * n) (hon : Od ≤ n) (hl : l.length + Od = Bk) (hc : l.length ≤ c) (hA : Kd.C (Kd.int .i64) w A l.length l)
    (hin : ∀ x ∈ l, -9223372036854775808 ≤ x ∧ x ≤ 9223372036854775807) :
    Calls Try.prog 46 #[.int .i64 O, .int .i64 Bk, .int .i64 Od, .slice A l.length c] w (TryPost O (tryL l n Od (2 ^ O) 0 6 [] []) w.heap.size w) := by
  have HCS : Aside0 (∀ W, Calls Try.prog 39 #[.agg #[.int .i64 0, .int .i64 O, .slice none 0 0, .slice none 0 0], .int .i64 Bk, .int .i64 Od] W fun e w' => e = .returned (.bool true) ∧ Below W.heap.size W w') := ⟨fun W =>
    rice_shape.calls 0 O none 0 [] none 0 [] Bk Od _ W ⟨rfl, by decide, fun h => absurd h (Nat.lt_irrefl _)⟩ (Nat.le_refl _) ⟨rfl, by decide, fun h => absurd h (Nat.lt_irrefl _)⟩ (Nat.le_refl _) (by rw [shape_eq 0 O [] [] Bk Od (by omega) (by omega), decide_eq_true hsh])⟩
  have hb0 : 1 ≤ Bk := by have := hsh.2.2.2.1; omega
  have hNp : 0 < 2 ^ O := Nat.two_pow_pos O
  have hN2 : 2 ^ O ≤ 32768 := by
    have := Nat.pow_le_pow_right (n := 2) (by decide) hO
    have e : (2 : Nat) ^ 15 = 32768 := by decide
    omega
  have HCUT : Aside0 (∀ (i : Nat) (W : World) (AP AE : Option Addr) (nP cP nE cE : Nat), Below w.heap.size w W → i < 2 ^ O → Calls Try.prog 32 #[.slice A l.length c, .agg #[.int .i64 0, .int .i64 O, .slice AP nP cP, .slice AE nE cE], .int .i64 Bk, .int .i64 Od, .int .i64 i] W fun e w' => ∃ A', e = .returned (.slice A' (partL l n Od i).length (partL l n Od i).length) ∧ Kd.C (Kd.int .i64) w' A' (partL l n Od i).length (partL l n Od i) ∧ (∀ ad', A' = some ad' → ∃ ad, A = some ad ∧ ad'.block = ad.block) ∧ Below W.heap.size W w') := ⟨fun i W AP AE nP cP nE cE hW hi =>
    cut_part l A c 0 O AP AE nP cP nE cE Bk Od i n hO hB hd hdiv hon hi hl hc W (Kd.C_below hA hW)⟩
  have hn6 : n ≤ 65535 := by
    have h3 : 1 * n ≤ 2 ^ O * n := Nat.mul_le_mul_right n hNp
    omega
  have HLEAST : Aside0 (∀ (i : Nat) (W : World) (A' : Option Addr), Kd.C (Kd.int .i64) W A' (partL l n Od i).length (partL l n Od i) → Calls Try.prog 63 #[.slice A' (partL l n Od i).length (partL l n Od i).length] W fun e w' => e = .returned (.tuple #[.int .i64 (leastF (partL l n Od i)).1, .int .i64 (leastF (partL l n Od i)).2]) ∧ Drawn0 W w') := ⟨fun i W A' hC => by
    have hlen := partL_length l n Od i
    obtain ⟨kk, hk⟩ := (least_ev (partL l n Od i) (by omega) (fun x hx => hin x (List.mem_of_mem_take (List.mem_of_mem_drop hx)))).rounds
    exact rice_least.calls kk A' (partL l n Od i).length (partL l n Od i) _ _ W hC (Nat.le_refl _) hk⟩
  have HLR : Aside0 (∀ i, 0 ≤ (leastF (partL l n Od i)).1 ∧ (leastF (partL l n Od i)).1 ≤ 14 ∧ -1 ≤ (leastF (partL l n Od i)).2 ∧ (leastF (partL l n Od i)).2 ≤ 1100000000000) := ⟨fun i => least_range _ (by have := partL_length l n Od i; omega)⟩
  have hne : ((l.length : Int) != (Bk : Int) - (Od : Int)) = false := bne_eq_false_iff_eq.mpr (by omega)
  have hsl : (1 : Int) * 2 ^ min ((O : Int)).toNat 64 = ((2 ^ O : Nat) : Int) := by
    rw [Int.toNat_natCast, Nat.min_eq_left (by omega), Int.one_mul]
    simp
  obtain ⟨X, hX⟩ : ∃ X, tryL l n Od (2 ^ O) 0 6 [] [] = X := ⟨_, rfl⟩
  rw [hX]
  have HX := Aside0.mk hX
  obtain ⟨N, hN⟩ : ∃ N, 2 ^ O = N := ⟨_, rfl⟩
  rw [hN] at HX hN2 hNp hsl HCUT
  clear hX hsh hdiv hN hA hin hon
  obtain ⟨oI, ho⟩ : ∃ oI : Int, (O : Int) = oI := ⟨_, rfl⟩
  have o0 : 0 ≤ oI := by omega
  have o1 : oI ≤ 64 := by omega
  rw [ho] at hsl HCS HCUT ⊢
  clear ho
  have hj9 : IntKind.i64.wrap (1 * 2 ^ min oI.toNat 64) = (N : Int) := by rw [hsl, IntKind.wrap_i64]; omega
  have hmin : min oI.toNat 64 = oI.toNat := Nat.min_eq_left (by omega)
  have hj0 : IntKind.i64.wrap (1 * 2 ^ oI.toNat) = (N : Int) := by rw [hmin] at hj9; exact hj9
  have hj1 : IntKind.i64.wrap (2 ^ min oI.toNat 64) = (N : Int) := by rw [Int.one_mul] at hj9; exact hj9
  have hj2 : IntKind.i64.wrap (2 ^ oI.toNat) = (N : Int) := by rw [Int.one_mul] at hj0; exact hj0
  have hj3 : wrap64 (1 * 2 ^ min oI.toNat 64) = (N : Int) := by rw [hsl]; unfold wrap64; omega
  have hj4 : wrap64 (2 ^ min oI.toNat 64) = (N : Int) := by rw [Int.one_mul] at hj3; exact hj3
  have HJ := Aside0.mk (And.intro hj9 (And.intro hj0 (And.intro hj1 (And.intro hj2 (And.intro hj3 hj4)))))
  clear hsl hmin hj9 hj0 hj1 hj2 hj3 hj4
  have hb1 : Below w.heap.size w ((w.alloc (.cells zRice 24 (0, 0))).alloc (.cells zRice 24 (0, 0))) := below_alloc (below_alloc (Below.refl _ _) _) _
  have hz : ((w.alloc (.cells zRice 24 (0, 0))).alloc (.cells zRice 24 (0, 0))).heap[w.heap.size]? = some (.cells zRice 24 (0, 0)) := blk_alloc (blk_new w _) _
  have hx : ((w.alloc (.cells zRice 24 (0, 0))).alloc (.cells zRice 24 (0, 0))).heap[w.heap.size + 1]? = some (.cells zRice 24 (0, 0)) := by simpa using blk_new (w.alloc (.cells zRice 24 (0, 0))) (.cells zRice 24 (0, 0))
  have HB1 := Aside0.mk (below_setRow hb1 (Nat.le_succ _) #[.int .i64 0, .int .i64 oI, .slice none 0 0, .slice none 0 0])
  have HX1 := Aside0.mk (setRow_heap _ _ _ #[.int .i64 0, .int .i64 oI, .slice none 0 0, .slice none 0 0] _ _ hx)
  have HZ1 : Aside0 (((((w.alloc (.cells zRice 24 (0, 0))).alloc (.cells zRice 24 (0, 0))).setRow (w.heap.size + 1) #[.int .i64 0, .int .i64 oI, .slice none 0 0, .slice none 0 0]).heap[w.heap.size]?) = some (.cells zRice 24 (0, 0))) := ⟨by rw [setRow_other _ _ _ _ (by omega)]; exact hz⟩
  have HXX := Aside0.mk hx
  have h810 : w.heap.size ≠ w.heap.size + 1 := by omega
  have hC10 : w.heap.size ≤ w.heap.size + 1 := by omega
  clear hb1 hz hx
  go_enter Try.func46, Try.ntmps46
  go_upto_region 2 with ((with_reducible refine wpList_store_row ?_ 24 (.tmp 10) (.tmp 16) ?_ (w.heap.size + 1) #[.int .i64 0, .int .i64 oI, .slice none 0 0, .slice none 0 0] ?_ ?_ 24 zRice HXX.out (rc_info _ _ _ _) ?_ (rc_one _ _ _ _ _ _ _ _) ?_); rfl; rfl; rfl; rfl; rfl)
  generalize ((w.alloc (.cells zRice 24 (0, 0))).alloc (.cells zRice 24 (0, 0))).setRow (w.heap.size + 1) #[.int .i64 0, .int .i64 oI, .slice none 0 0, .slice none 0 0] = w1 at *
  generalize w.heap.size + 1 = b10 at *
  have c0 := blk_cell HX1.out 0
  have c1 := blk_cell HX1.out 1
  have c2 := blk_cell HX1.out 2
  have c3 := blk_cell HX1.out 3
  go_wp2_with fail
  with_reducible refine (HCS.out _).mono ?_
  rintro e w2 ⟨rfl, hb2⟩
  have hst0 : TrySt w w.heap.size b10 oI w2 (.slice none 0 0) (.slice none 0 0) [] [] :=
    ⟨HB1.out.trans (hb2.mono HB1.out.size), blk_below HZ1.out hb2, blk_below HX1.out hb2, IntsAt.nil _ _, IntsAt.nil _ _, Dis.nil_left _⟩
  have HST := Aside0.mk hst0
  clear hb2 c0 c1 c2 c3 HX1 HZ1 HB1 HCS HXX hst0
  obtain ⟨hj9, hj0, hj1, hj2, hj3, hj4⟩ := HJ.out
  go_wp2
  clear hj9 hj0 hj1 hj2 hj3 hj4
  go_loopw [11, 33] (fun sv iv wr => ∃ (i : Nat) (sum : Int) (vP vE : Value) (ps es : List Int), i ≤ N ∧ iv = .int .i64 i ∧ sv = .int .i64 sum ∧ 0 ≤ sum ∧ sum ≤ 6 + i * 1100000000004 ∧ ps.length = i ∧ es.length = i ∧ Aside0 (TrySt w w.heap.size b10 oI wr vP vE ps es) ∧ Aside0 (tryL l n Od (N - i) i sum ps es = X)) (fun _ iv _ => N - (intOf iv).toNat)
  case atStart => exact ⟨0, 6, .slice none 0 0, .slice none 0 0, [], [], Nat.zero_le _, rfl, rfl, by omega, by omega, rfl, rfl, HST, ⟨by rw [Nat.sub_zero]; exact HX.out⟩⟩
  case round =>
    clear HST HX
    obtain ⟨i, sum, vP, vE, ps, es, hi, rfl, rfl, s0, s1, hps, hes, HST, HX⟩ := hrel
    have HPS := Aside0.mk hps
    have HES := Aside0.mk hes
    clear hps hes
    by_cases hlt : i < N
    · have i0 : (0 : Int) ≤ (i : Int) := by omega
      have i1 : (i : Int) < (N : Int) := by omega
      obtain ⟨d, hd⟩ : ∃ d, N - i = d + 1 := ⟨N - i - 1, by omega⟩
      have hd2 : N - (i + 1) = d := by omega
      have HD := Aside0.mk hd2
      have HX2 : Aside0 ((if (leastF (partL l n Od i)).2 < 0 then none else tryL l n Od d (i + 1) (sum + (4 + (leastF (partL l n Od i)).2)) (ps ++ [(leastF (partL l n Od i)).1]) (es ++ [-1])) = X) := ⟨by
        have := HX.out
        rw [hd] at this
        unfold tryL at this
        exact this⟩
      obtain ⟨k0, k1, b0, b1⟩ := HLR.out i
      have HCi := Aside0.mk (fun (W : World) (AP AE : Option Addr) (nP cP nE cE : Nat) (h : Below w.heap.size w W) => HCUT.out i W AP AE nP cP nE cE h hlt)
      have HLi := Aside0.mk (HLEAST.out i)
      clear HX hd hd2
      generalize leastF (partL l n Od i) = lf at HLi HX2 k0 k1 b0 b1
      obtain ⟨kk, bb⟩ := lf
      simp only at HLi HX2 k0 k1 b0 b1
      generalize (partL l n Od i).length = pn at HLi HCi
      generalize partL l n Od i = pl at HLi HCi
      obtain ⟨AP, nP, cP, eP⟩ := HST.out.P.shape
      subst eP
      obtain ⟨AE, nE, cE, eE⟩ := HST.out.E.shape
      subst eE
      have c0 := blk_cell HST.out.r10 0
      have c1 := blk_cell HST.out.r10 1
      have c2 := blk_cell HST.out.r10 2
      have c3 := blk_cell HST.out.r10 3
      have HCC := Aside0.mk (HCi.out wr AP AE nP cP nE cE HST.out.bel)
      go_wp2_with fail
      with_reducible refine HCC.out.mono ?_
      rintro e w4 ⟨A4, rfl, hC4, _, hb4⟩
      have HST4 := Aside0.mk (HST.out.below hb4)
      have HLL := Aside0.mk (HLi.out w4 A4 hC4)
      clear hC4 hb4 HST HCC HCi HLi c0 c1 c2 c3
      go_wp2_with fail
      with_reducible refine HLL.out.mono ?_
      rintro e w5 ⟨rfl, hd5⟩
      have HST5 := Aside0.mk (HST4.out.below hd5.below)
      clear hd5 HST4 HLL
      by_cases hbb : bb < 0
      · have HXN : Aside0 (X = none) := ⟨by have := HX2.out; rw [if_pos hbb] at this; exact this.symm⟩
        go_wp2_with ((with_reducible refine wpList_store_row ?_ 24 (.tmp 8) (.tmp 48) ?_ w.heap.size zRice ?_ ?_ 24 zRice HST5.out.z8 (rc_info _ _ _ _) ?_ (rc_one _ _ _ _ _ _ _ _) ?_); rfl; rfl; rfl; rfl; rfl)
        refine bodyPost_ret (results_ct rfl _ _ w.heap.size 24 zRice (0, 0) _ rfl (setRow_heap _ _ _ _ _ _ HST5.out.z8) Try.underlying24 rfl (rc_info _ _ _ _)) rfl ?_
        exact .inl ⟨HXN.out, rfl, below_setRow HST5.out.bel (Nat.le_refl _) _⟩
      · have HX3 : Aside0 (tryL l n Od d (i + 1) (sum + (4 + bb)) (ps ++ [kk]) (es ++ [-1]) = X) := ⟨by have := HX2.out; rw [if_neg hbb] at this; exact this⟩
        have hiN : (i : Int) * 1100000000004 ≤ 32768 * 1100000000004 := by omega
        clear HX2
        go_upto_region 12 with fail
        have hst8 := HST5.out.below (below_drew (Below.refl w5.heap.size w5))
        have HST8 := Aside0.mk hst8
        have hst := TwoRows.start hst8.r10 (by decide) hst8.P hst8.E hst8.d3 hC10
        have hpl : ps.length ≤ 65536 := by have := HPS.out; omega
        have hel : es.length ≤ 65536 := by have := HES.out; omega
        clear hst8 HST5
        refine start_ (n := 13) (S := fun w' => w'.cell? ⟨b10, 2, none⟩ = some ((Value.slice AP nP cP)) ∧ w'.cell? ⟨b10, 3, none⟩ = some ((Value.slice AE nE cE))) (ds := [10, 12]) #[false, false, false, false, false, false, false, false, false, false, false, false, false] (by kernel_rfl) rfl rfl ⟨blk_cell hst.box 2, blk_cell hst.box 3⟩ (fun hHeld => ?_)
        refine pure_ (i := 0) (N := some 53) (v := ?_) (a' := ?_) #[true, false, false, false, false, false, false, false, false, false, false, false, false] rfl rfl (by kernel_rfl) (fun _ _ _ h => h) (Or.inl ⟨by rfl, ?_⟩) ?_ ?_
        rotate_left
        · intro w'
          go_simp
          with_reducible rfl
        rotate_left
        · simp only [Act.put, List.setIfInBounds_toArray, List.set_cons_zero, List.set_cons_succ, i64_w, i32_w]
          rfl
        refine pure_ (i := 2) (N := some 55) (v := ?_) (a' := ?_) #[true, false, true, false, false, false, false, false, false, false, false, false, false] rfl rfl (by kernel_rfl) (fun _ _ _ h => h) (Or.inl ⟨by rfl, ?_⟩) ?_ ?_
        rotate_left
        · intro w'
          go_simp
          with_reducible rfl
        rotate_left
        · simp only [Act.put, List.setIfInBounds_toArray, List.set_cons_zero, List.set_cons_succ, i64_w, i32_w]
          rfl
        refine pure_ (i := 5) (N := some 58) (v := ?_) (a' := ?_) #[true, false, true, false, false, true, false, false, false, false, false, false, false] rfl rfl (by kernel_rfl) (fun _ _ _ h => h) (Or.inl ⟨by rfl, ?_⟩) ?_ ?_
        rotate_left
        · intro w'
          go_simp
          with_reducible rfl
        rotate_left
        · simp only [Act.put, List.setIfInBounds_toArray, List.set_cons_zero, List.set_cons_succ, i64_w, i32_w]
          rfl
        refine take_ (i := 1) (N := some 54) (v := ?_) (a' := ?_) #[true, true, true, false, false, true, false, false, false, false, false, false, false] rfl rfl (by kernel_rfl) (fun _ _ _ h => h) (Or.inl ⟨by rfl, ?_⟩) hHeld ?_ ?_
        rotate_left
        · rintro w' ⟨s0, s1⟩
          go_simp
          with_reducible rfl
        rotate_left
        · simp only [Act.put, List.setIfInBounds_toArray, List.set_cons_zero, List.set_cons_succ, i64_w, i32_w]
          rfl
        refine take_ (i := 6) (N := some 59) (v := ?_) (a' := ?_) #[true, true, true, false, false, true, true, false, false, false, false, false, false] rfl rfl (by kernel_rfl) (fun _ _ _ h => h) (Or.inl ⟨by rfl, ?_⟩) hHeld ?_ ?_
        rotate_left
        · rintro w' ⟨s0, s1⟩
          go_simp
          with_reducible rfl
        rotate_left
        · simp only [Act.put, List.setIfInBounds_toArray, List.set_cons_zero, List.set_cons_succ, i64_w, i32_w]
          rfl
        refine join_ (σ := Nat × Value × Nat) 4 #[true, true, true, true, true, true, true, true, false, true, false, false, false] (fun s_ => [(56, .slice (some ⟨s_.1, 0, none⟩) 1 1), (57, s_.2.1), (60, .slice (some ⟨s_.2.2, 0, none⟩) 1 1), (62, .pointer (some ⟨b10, 2, none⟩))]) (fun s_ w' => (w'.cell? ⟨b10, 2, none⟩ = some ((Value.slice AP nP cP)) ∧ w'.cell? ⟨b10, 3, none⟩ = some ((Value.slice AE nE cE))) ∧ TwoRows w.heap.size b10 24 w5.drew ((Value.slice AP nP cP)) ((Value.slice AE nE cE)) w' #[.int .i64 0, .int .i64 oI, (Value.slice AP nP cP), (Value.slice AE nE cE)] s_.2.1 ((Value.slice AE nE cE)) (ps ++ [kk]) (es) ∧ w'.heap[s_.2.2]? = some (.cells #[.int .i64 (-1)] 3 (0, 0))) ?_ ?_
        rotate_left
        · intro hCont
          refine two_ (i := 3) (j := 7) (Ni := some 56) (Nj := some 60) #[true, true, true, true, false, true, true, false, false, false, false, false, false] #[true, true, true, false, false, true, true, true, false, false, false, false, false] rfl rfl rfl rfl (by kernel_rfl) (by decide) (by decide) (fun K hK => ?_) (fun K hK => ?_)
          · skip
            refine value_ (w1 := ?_) (v := ?_) (by rfl) rfl ?_ ?_
            rotate_left 2
            · go_simp
              constructor
              · rfl
              · rfl
            have hb1 : (w5.drew.alloc (.cells #[.int .i64 (kk)] 3 (0, 0))).heap[w5.heap.size]? = some (.cells #[.int .i64 (kk)] 3 (0, 0)) := by simpa using blk_new w5.drew (.cells #[.int .i64 (kk)] 3 (0, 0))
            have hs9 := hst.new (below_alloc (Below.refl _ _) (.cells #[.int .i64 (kk)] 3 (0, 0)))
            clear hst
            have hst := hs9
            clear hs9
            refine hK.out _ _ ⟨blk_cell hst.box 2, blk_cell hst.box 3⟩ (fun hHeld => ?_)
            clear hK K
            refine norm_ (a' := ?_) ?_ ?_
            rotate_left
            · show Act.put _ (some 56) _ = _
              simp only [Act.put, List.setIfInBounds_toArray, List.set_cons_zero, List.set_cons_succ, i64_w, i32_w]
              rfl
            refine two_ (i := 4) (j := 7) (Ni := some 57) (Nj := some 60) #[true, true, true, true, true, true, true, false, false, false, false, false, false] #[true, true, true, true, false, true, true, true, false, false, false, false, false] rfl rfl rfl rfl (by kernel_rfl) (by decide) (by decide) (fun K hK => ?_) (fun K hK => ?_)
            · skip
              refine app_lit_step (C := w.heap.size) (.tmp 54) (.tmp 56) (v := (Value.slice AP nP cP)) (xs := ps) (kk) ?_ ?_ ?_ ?_ hst.P hb1 hst.le (by omega) ?_
              · rfl
              · rfl
              · rfl
              · rfl
              intro v1 w1 hr1 hg1 ho1
              have hs9 := hst.growP hr1 hg1 ho1
              clear hr1 hg1 ho1 hst hb1
              have hst := hs9
              clear hs9
              refine hK.out _ _ ⟨blk_cell hst.box 2, blk_cell hst.box 3⟩ (fun hHeld => ?_)
              clear hK K
              refine norm_ (a' := ?_) ?_ ?_
              rotate_left
              · show Act.put _ (some 57) _ = _
                simp only [Act.put, List.setIfInBounds_toArray, List.set_cons_zero, List.set_cons_succ, i64_w, i32_w]
                rfl
              refine pure_ (i := 9) (N := some 62) (v := ?_) (a' := ?_) #[true, true, true, true, true, true, true, false, false, true, false, false, false] rfl rfl (by kernel_rfl) (fun _ _ _ h => h) (Or.inl ⟨by rfl, ?_⟩) ?_ ?_
              rotate_left
              · intro w'
                go_simp
                with_reducible rfl
              rotate_left
              · simp only [Act.put, List.setIfInBounds_toArray, List.set_cons_zero, List.set_cons_succ, i64_w, i32_w]
                rfl
              refine one_ (i := 7) (N := some 60) #[true, true, true, true, true, true, true, true, false, true, false, false, false] rfl rfl (by kernel_rfl) (by decide) (fun K hK => ?_)
              refine value_ (w1 := ?_) (v := ?_) (by rfl) rfl ?_ ?_
              rotate_left 2
              · go_simp
                constructor
                · rfl
                · rfl
              have hb2 : (w1.alloc (.cells #[.int .i64 (-1)] 3 (0, 0))).heap[w1.heap.size]? = some (.cells #[.int .i64 (-1)] 3 (0, 0)) := by simpa using blk_new w1 (.cells #[.int .i64 (-1)] 3 (0, 0))
              have hs9 := hst.new (below_alloc (Below.refl _ _) (.cells #[.int .i64 (-1)] 3 (0, 0)))
              clear hst
              have hst := hs9
              clear hs9
              refine hK.out _ _ ⟨blk_cell hst.box 2, blk_cell hst.box 3⟩ (fun hHeld => ?_)
              clear hK K
              refine norm_ (a' := ?_) ?_ ?_
              rotate_left
              · show Act.put _ (some 60) _ = _
                simp only [Act.put, List.setIfInBounds_toArray, List.set_cons_zero, List.set_cons_succ, i64_w, i32_w]
                rfl
              exact norm_ (by simp only [putAll, Act.put, List.setIfInBounds_toArray, List.set_cons_zero, List.set_cons_succ]) (hCont (⟨w5.heap.size, v1, w1.heap.size⟩ : Nat × Value × Nat) _ ⟨⟨blk_cell hst.box 2, blk_cell hst.box 3⟩, hst, hb2⟩)
            · skip
              refine value_ (w1 := ?_) (v := ?_) (by rfl) rfl ?_ ?_
              rotate_left 2
              · go_simp
                constructor
                · rfl
                · rfl
              have hb2 : ((w5.drew.alloc (.cells #[.int .i64 (kk)] 3 (0, 0))).alloc (.cells #[.int .i64 (-1)] 3 (0, 0))).heap[w5.heap.size + 1]? = some (.cells #[.int .i64 (-1)] 3 (0, 0)) := by simpa using blk_new (w5.drew.alloc (.cells #[.int .i64 (kk)] 3 (0, 0))) (.cells #[.int .i64 (-1)] 3 (0, 0))
              have hd2 : ∀ j, ((Value.slice AP nP cP)).ownBlock = some j → j ≠ w5.heap.size + 1 := fun j hj => Nat.ne_of_lt (by have h9 := hst.P.lt j hj; simp at h9; omega)
              have hb1' : ((w5.drew.alloc (.cells #[.int .i64 (kk)] 3 (0, 0))).alloc (.cells #[.int .i64 (-1)] 3 (0, 0))).heap[_]? = some _ := blk_alloc hb1 (.cells #[.int .i64 (-1)] 3 (0, 0))
              clear hb1
              have hb1 := hb1'
              clear hb1'
              have hs9 := hst.new (below_alloc (Below.refl _ _) (.cells #[.int .i64 (-1)] 3 (0, 0)))
              clear hst
              have hst := hs9
              clear hs9
              refine hK.out _ _ ⟨blk_cell hst.box 2, blk_cell hst.box 3⟩ (fun hHeld => ?_)
              clear hK K
              refine norm_ (a' := ?_) ?_ ?_
              rotate_left
              · show Act.put _ (some 60) _ = _
                simp only [Act.put, List.setIfInBounds_toArray, List.set_cons_zero, List.set_cons_succ, i64_w, i32_w]
                rfl
              refine one_ (i := 4) (N := some 57) #[true, true, true, true, true, true, true, true, false, false, false, false, false] rfl rfl (by kernel_rfl) (by decide) (fun K hK => ?_)
              refine app_lit_step (C := w.heap.size) (.tmp 54) (.tmp 56) (v := (Value.slice AP nP cP)) (xs := ps) (kk) ?_ ?_ ?_ ?_ hst.P hb1 hst.le (by omega) ?_
              · rfl
              · rfl
              · rfl
              · rfl
              intro v1 w1 hr1 hg1 ho1
              have hb2' := lit_kept hb2 hd2 hg1
              clear hb2 hd2
              have hb2 := hb2'
              clear hb2'
              have hs9 := hst.growP hr1 hg1 ho1
              clear hr1 hg1 ho1 hst hb1
              have hst := hs9
              clear hs9
              refine hK.out _ _ ⟨blk_cell hst.box 2, blk_cell hst.box 3⟩ (fun hHeld => ?_)
              clear hK K
              refine norm_ (a' := ?_) ?_ ?_
              rotate_left
              · show Act.put _ (some 57) _ = _
                simp only [Act.put, List.setIfInBounds_toArray, List.set_cons_zero, List.set_cons_succ, i64_w, i32_w]
                rfl
              refine pure_ (i := 9) (N := some 62) (v := ?_) (a' := ?_) #[true, true, true, true, true, true, true, true, false, true, false, false, false] rfl rfl (by kernel_rfl) (fun _ _ _ h => h) (Or.inl ⟨by rfl, ?_⟩) ?_ ?_
              rotate_left
              · intro w'
                go_simp
                with_reducible rfl
              rotate_left
              · simp only [Act.put, List.setIfInBounds_toArray, List.set_cons_zero, List.set_cons_succ, i64_w, i32_w]
                rfl
              exact norm_ (by simp only [putAll, Act.put, List.setIfInBounds_toArray, List.set_cons_zero, List.set_cons_succ]) (hCont (⟨w5.heap.size, v1, w5.heap.size + 1⟩ : Nat × Value × Nat) _ ⟨⟨blk_cell hst.box 2, blk_cell hst.box 3⟩, hst, hb2⟩)
          · skip
            refine value_ (w1 := ?_) (v := ?_) (by rfl) rfl ?_ ?_
            rotate_left 2
            · go_simp
              constructor
              · rfl
              · rfl
            have hb2 : (w5.drew.alloc (.cells #[.int .i64 (-1)] 3 (0, 0))).heap[w5.heap.size]? = some (.cells #[.int .i64 (-1)] 3 (0, 0)) := by simpa using blk_new w5.drew (.cells #[.int .i64 (-1)] 3 (0, 0))
            have hd2 : ∀ j, ((Value.slice AP nP cP)).ownBlock = some j → j ≠ w5.heap.size := fun j hj => Nat.ne_of_lt (by have h9 := hst.P.lt j hj; simp at h9; omega)
            have hs9 := hst.new (below_alloc (Below.refl _ _) (.cells #[.int .i64 (-1)] 3 (0, 0)))
            clear hst
            have hst := hs9
            clear hs9
            refine hK.out _ _ ⟨blk_cell hst.box 2, blk_cell hst.box 3⟩ (fun hHeld => ?_)
            clear hK K
            refine norm_ (a' := ?_) ?_ ?_
            rotate_left
            · show Act.put _ (some 60) _ = _
              simp only [Act.put, List.setIfInBounds_toArray, List.set_cons_zero, List.set_cons_succ, i64_w, i32_w]
              rfl
            refine one_ (i := 3) (N := some 56) #[true, true, true, true, false, true, true, true, false, false, false, false, false] rfl rfl (by kernel_rfl) (by decide) (fun K hK => ?_)
            refine value_ (w1 := ?_) (v := ?_) (by rfl) rfl ?_ ?_
            rotate_left 2
            · go_simp
              constructor
              · rfl
              · rfl
            have hb1 : ((w5.drew.alloc (.cells #[.int .i64 (-1)] 3 (0, 0))).alloc (.cells #[.int .i64 (kk)] 3 (0, 0))).heap[w5.heap.size + 1]? = some (.cells #[.int .i64 (kk)] 3 (0, 0)) := by simpa using blk_new (w5.drew.alloc (.cells #[.int .i64 (-1)] 3 (0, 0))) (.cells #[.int .i64 (kk)] 3 (0, 0))
            have hb2' : ((w5.drew.alloc (.cells #[.int .i64 (-1)] 3 (0, 0))).alloc (.cells #[.int .i64 (kk)] 3 (0, 0))).heap[_]? = some _ := blk_alloc hb2 (.cells #[.int .i64 (kk)] 3 (0, 0))
            clear hb2
            have hb2 := hb2'
            clear hb2'
            have hs9 := hst.new (below_alloc (Below.refl _ _) (.cells #[.int .i64 (kk)] 3 (0, 0)))
            clear hst
            have hst := hs9
            clear hs9
            refine hK.out _ _ ⟨blk_cell hst.box 2, blk_cell hst.box 3⟩ (fun hHeld => ?_)
            clear hK K
            refine norm_ (a' := ?_) ?_ ?_
            rotate_left
            · show Act.put _ (some 56) _ = _
              simp only [Act.put, List.setIfInBounds_toArray, List.set_cons_zero, List.set_cons_succ, i64_w, i32_w]
              rfl
            refine one_ (i := 4) (N := some 57) #[true, true, true, true, true, true, true, true, false, false, false, false, false] rfl rfl (by kernel_rfl) (by decide) (fun K hK => ?_)
            refine app_lit_step (C := w.heap.size) (.tmp 54) (.tmp 56) (v := (Value.slice AP nP cP)) (xs := ps) (kk) ?_ ?_ ?_ ?_ hst.P hb1 hst.le (by omega) ?_
            · rfl
            · rfl
            · rfl
            · rfl
            intro v1 w1 hr1 hg1 ho1
            have hb2' := lit_kept hb2 hd2 hg1
            clear hb2 hd2
            have hb2 := hb2'
            clear hb2'
            have hs9 := hst.growP hr1 hg1 ho1
            clear hr1 hg1 ho1 hst hb1
            have hst := hs9
            clear hs9
            refine hK.out _ _ ⟨blk_cell hst.box 2, blk_cell hst.box 3⟩ (fun hHeld => ?_)
            clear hK K
            refine norm_ (a' := ?_) ?_ ?_
            rotate_left
            · show Act.put _ (some 57) _ = _
              simp only [Act.put, List.setIfInBounds_toArray, List.set_cons_zero, List.set_cons_succ, i64_w, i32_w]
              rfl
            refine pure_ (i := 9) (N := some 62) (v := ?_) (a' := ?_) #[true, true, true, true, true, true, true, true, false, true, false, false, false] rfl rfl (by kernel_rfl) (fun _ _ _ h => h) (Or.inl ⟨by rfl, ?_⟩) ?_ ?_
            rotate_left
            · intro w'
              go_simp
              with_reducible rfl
            rotate_left
            · simp only [Act.put, List.setIfInBounds_toArray, List.set_cons_zero, List.set_cons_succ, i64_w, i32_w]
              rfl
            exact norm_ (by simp only [putAll, Act.put, List.setIfInBounds_toArray, List.set_cons_zero, List.set_cons_succ]) (hCont (⟨w5.heap.size + 1, v1, w5.heap.size⟩ : Nat × Value × Nat) _ ⟨⟨blk_cell hst.box 2, blk_cell hst.box 3⟩, hst, hb2⟩)
        rintro ⟨b1, v1, b2⟩ w5 ⟨hHeld, hst, hb2⟩
        refine norm_ (a' := ?_) ?_ ?_
        rotate_left
        · simp only [putAll, Act.put, List.setIfInBounds_toArray, List.set_cons_zero, List.set_cons_succ]
          rfl
        refine one_ (i := 8) (N := some 61) #[true, true, true, true, true, true, true, true, true, true, false, false, false] rfl rfl (by kernel_rfl) (by decide) (fun K hK => ?_)
        refine app_lit_step (C := w.heap.size) (.tmp 59) (.tmp 60) (v := (Value.slice AE nE cE)) (xs := es) (-1) ?_ ?_ ?_ ?_ hst.E hb2 hst.le (by omega) ?_
        · rfl
        · rfl
        · rfl
        · rfl
        intro v2 w6 hr2 hg2 ho2
        have hs9 := hst.growE hr2 hg2 ho2
        clear hr2 hg2 ho2 hst hb2
        have hst := hs9
        clear hs9
        obtain ⟨A1_, n1_, c1_, e1_⟩ := hst.P.shape
        subst e1_
        obtain ⟨A2_, n2_, c2_, e2_⟩ := hst.E.shape
        subst e2_
        have cP_ := blk_cell hst.box 2
        have cE_ := blk_cell hst.box 3
        have fP_ := blk_frozen hst.box 2
        have fE_ := blk_frozen hst.box 3
        refine hK.out _ _ ⟨blk_cell hst.box 2, blk_cell hst.box 3⟩ (fun hHeld => ?_)
        clear hK K
        refine norm_ (a' := ?_) ?_ ?_
        rotate_left
        · show Act.put _ (some 61) _ = _
          simp only [Act.put, List.setIfInBounds_toArray, List.set_cons_zero, List.set_cons_succ, i64_w, i32_w]
          rfl
        refine last_ (i := 10) (N := none) #[true, true, true, true, true, true, true, true, true, true, true, false, false] rfl rfl (by kernel_rfl) (by decide) (fun K hK => ?_)
        refine skip_ (w1 := ?_) (by rfl) rfl ?_ ?_
        rotate_left
        · go_simp
          rfl
        refine hK.out _ _ ?_
        clear hK K
        refine pure_ (i := 11) (N := some 63) (v := ?_) (a' := ?_) #[true, true, true, true, true, true, true, true, true, true, true, true, false] rfl rfl (by kernel_rfl) (fun _ _ _ h => h) (Or.inl ⟨by rfl, ?_⟩) ?_ ?_
        rotate_left
        · intro w'
          go_simp
          with_reducible rfl
        rotate_left
        · simp only [Act.put, List.setIfInBounds_toArray, List.set_cons_zero, List.set_cons_succ, i64_w, i32_w]
          rfl
        refine last_ (i := 12) (N := none) #[true, true, true, true, true, true, true, true, true, true, true, true, true] rfl rfl (by kernel_rfl) (by decide) (fun K hK => ?_)
        refine skip_ (w1 := ?_) (by rfl) rfl ?_ ?_
        rotate_left
        · go_simp
          rfl
        refine hK.out _ _ ?_
        clear hK K
        refine done_ (by kernel_rfl) ?_
        have hs9 := (hst.put 2 (.slice A1_ n1_ c1_) (cells2 := #[.int .i64 0, .int .i64 oI, (.slice A1_ n1_ c1_), (Value.slice AE nE cE)]) rfl).put 3 (.slice A2_ n2_ c2_) (cells2 := #[.int .i64 0, .int .i64 oI, (.slice A1_ n1_ c1_), (.slice A2_ n2_ c2_)]) rfl
        clear hst cP_ cE_ fP_ fE_
        have hst := hs9
        clear hs9
        have HST9 := Aside0.mk (HST8.out.two h810 hst)
        clear hst HST8
        go_wp2
        go_roundw
        case rel => exact ⟨i + 1, sum + (4 + bb), _, _, ps ++ [kk], es ++ [-1], by omega, by go_num, rfl, by omega, by omega, by rw [List.length_append, HPS.out]; rfl, by rw [List.length_append, HES.out]; rfl, HST9, ⟨by rw [HD.out]; exact HX3.out⟩⟩
        case measure => simp [intOf]; omega
    · obtain rfl : i = N := by omega
      have hXS : X = some (sum, ps, es) := by have := HX.out; rw [Nat.sub_self] at this; exact this.symm
      have HXS := Aside0.mk hXS
      clear hXS HX
      obtain ⟨AP_, nP_, cP_, eP_⟩ := HST.out.P.shape
      subst eP_
      obtain ⟨AE_, nE_, cE_, eE_⟩ := HST.out.E.shape
      subst eE_
      have c0 := blk_cell HST.out.r10 0
      have c1 := blk_cell HST.out.r10 1
      have c2 := blk_cell HST.out.r10 2
      have c3 := blk_cell HST.out.r10 3
      have i2 : ¬ (i : Int) < (i : Int) := Int.lt_irrefl _
      go_wp2_with ((with_reducible refine wpList_store_row ?_ 24 (.tmp 8) (.tmp 65) ?_ w.heap.size #[.int .i64 0, .int .i64 oI, .slice AP_ nP_ cP_, .slice AE_ nE_ cE_] ?_ ?_ 24 zRice HST.out.z8 (rc_info _ _ _ _) ?_ (rc_one _ _ _ _ _ _ _ _) ?_); rfl; rfl; rfl; rfl; rfl)
      refine bodyPost_ret (results_ct rfl _ _ w.heap.size 24 #[.int .i64 0, .int .i64 oI, .slice AP_ nP_ cP_, .slice AE_ nE_ cE_] (0, 0) _ rfl (setRow_heap _ _ _ _ _ _ HST.out.z8) Try.underlying24 rfl (rc_info _ _ _ _)) rfl ?_
      exact .inr ⟨sum, ps, es, _, _, HXS.out, rfl, HST.out.P.setRow HST.out.z8 (by decide), HST.out.E.setRow HST.out.z8 (by decide), below_setRow HST.out.bel (Nat.le_refl _) _⟩
end Go.Proofs.Ytfhekkoibmlmpaa.Hand
