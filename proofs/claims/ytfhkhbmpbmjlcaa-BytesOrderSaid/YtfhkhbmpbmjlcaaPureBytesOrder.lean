/- The pure law of BytesOrder: of two numbers the greater one has the greater text; no coded number is a beginning of another one. -/
import Derived.Test.YtfhkhbmpbmjlcaaMath6
namespace Go.Proofs.Ytfhkhbmpbmjlcaa.Pure
open Go.RowKit Go.Proofs.Ytfhkhbmpbmjlcaa.Q Go.Proofs.Ytfhkhbmpbmjlcaa.Math Go.Proofs.YtfhkhbmpbmjlcaaW.PrintWords Go.Proofs.YtfhkhbmpbmjlcaaW.PrintLast Go.Proofs.YtfhkhbmpbmjlcaaW.PrintMore
set_option linter.unusedVariables false
set_option linter.unusedSimpArgs false

theorem prefix_free (a b : Int) (ha : 0 ≤ a ∧ a < 68719476736) (hb : 0 ≤ b ∧ b < 68719476736) (hl : (strOfNums (codR a)).size ≤ (strOfNums (codR b)).size)
    (h : ((strOfNums (codR b)).extract 0 (strOfNums (codR a)).size).toList = (strOfNums (codR a)).toList) : a = b := by
  have h1 := toList_inj h
  have e : strOfNums (codR b) = strOfNums (codR a) ++ (strOfNums (codR b)).extract (strOfNums (codR a)).size (strOfNums (codR b)).size := by
    apply toList_inj
    rw [toList_data, toList_data, show ∀ a b : ByteArray, (a ++ b).data.toList = a.data.toList ++ b.data.toList from fun a b => by simp [ByteArray.data_append], Lib.extract_data]
    have h2 : (strOfNums (codR a)).data.toList = (strOfNums (codR b)).data.toList.take (strOfNums (codR a)).size := by
      have := congrArg (fun s => s.data.toList) h1
      simp only [Lib.extract_data, List.drop_zero, Nat.sub_zero] at this
      exact this.symm
    rw [h2, List.take_of_length_le (i := (strOfNums (codR b)).size - (strOfNums (codR a)).size) (by
      rw [List.length_drop, Array.length_toList]
      exact Nat.le_refl _), List.take_append_drop]
  have u1 := un_back a ha.1 ha.2 ((strOfNums (codR b)).extract (strOfNums (codR a)).size (strOfNums (codR b)).size)
  rw [← e] at u1
  have u2 := un_back b hb.1 hb.2 ⟨#[]⟩
  have e2 : strOfNums (codR b) ++ (⟨#[]⟩ : ByteArray) = strOfNums (codR b) := by
    apply ByteArray.ext; simp
  rw [e2, u1] at u2
  injection u2
theorem less_snoc : ∀ (x y : List UInt8) (a b : UInt8), x.length = y.length → Op.bytesLess (x ++ [a]) (y ++ [b]) = (Op.bytesLess x y || (decide (x = y) && decide (a < b)))
  | [], [], a, b, _ => by simp [Op.bytesLess]
  | c :: x, d :: y, a, b, h => by
    have ih := less_snoc x y a b (by simpa using h)
    simp only [List.cons_append, Op.bytesLess, ih]
    by_cases e : c = d
    · subst e
      simp
    · rw [show (c == d) = false from beq_eq_false_iff_ne.2 e]
      simp [e]
  | [], _ :: _, _, _, h => by simp at h
  | _ :: _, [], _, _, h => by simp at h
theorem u8_lt (a b : Int) (ha : 0 ≤ a ∧ a < 256) (hb : 0 ≤ b ∧ b < 256) : (UInt8.ofNat a.toNat < UInt8.ofNat b.toNat) ↔ a < b := by
  rw [UInt8.lt_iff_toNat_lt, UInt8.toNat_ofNat', UInt8.toNat_ofNat']
  omega
theorem u8_eq (a b : Int) (ha : 0 ≤ a ∧ a < 256) (hb : 0 ≤ b ∧ b < 256) : (UInt8.ofNat a.toNat = UInt8.ofNat b.toNat) ↔ a = b := by
  rw [← UInt8.toNat_inj, UInt8.toNat_ofNat', UInt8.toNat_ofNat']
  omega
theorem less_be (w : Nat) : ∀ a b : Int, 0 ≤ a → a < 256 ^ w → 0 ≤ b → b < 256 ^ w →
    Op.bytesLess ((leL w a).reverse.map fun n => UInt8.ofNat n.toNat) ((leL w b).reverse.map fun n => UInt8.ofNat n.toNat) = decide (a < b) ∧
    (((leL w a).reverse.map fun n => UInt8.ofNat n.toNat) = ((leL w b).reverse.map fun n => UInt8.ofNat n.toNat) ↔ a = b) := by
  induction w with
  | zero =>
    intro a b h1 h2 h3 h4
    simp at h2 h4
    simp [leL, Op.bytesLess]
    omega
  | succ w ih =>
    intro a b h1 h2 h3 h4
    rw [Int.pow_succ] at h2 h4
    obtain ⟨i1, i2⟩ := ih (a / 256) (b / 256) (by omega) (by omega) (by omega) (by omega)
    simp only [leL, List.reverse_cons, List.map_append, List.map_cons, List.map_nil]
    rw [less_snoc _ _ _ _ (by simp [leL_length]), i1]
    constructor
    · rw [Bool.eq_iff_iff]
      simp only [Bool.or_eq_true, Bool.and_eq_true, decide_eq_true_eq, i2, u8_lt (a % 256) (b % 256) (by omega) (by omega)]
      omega
    · constructor
      · intro h
        have h5 := List.append_inj' h rfl
        have h6 := i2.1 h5.1
        have h7 := (u8_eq (a % 256) (b % 256) (by omega) (by omega)).1 (by simpa using h5.2)
        omega
      · rintro rfl
        rfl
theorem less5 (a b : Int) (ha : 0 ≤ a ∧ a < 1099511627776) (hb : 0 ≤ b ∧ b < 1099511627776) : Op.bytesLess (strOfNums (leL 5 a).reverse).toList (strOfNums (leL 5 b).reverse).toList = decide (a < b) := by
  rw [toList_data, toList_data, strOfNums_data, strOfNums_data]
  exact (less_be 5 a b ha.1 (by simpa using ha.2) hb.1 (by simpa using hb.2)).1
theorem BytesOrder : lacquerlaw02_BytesOrder.Pure := by
  intro a b _ _
  refine Ev.rounds ?_
  unfold lacquerlaw02_BytesOrder.f
  have ha : 0 ≤ mx 0 (mn a 68719476735) ∧ mx 0 (mn a 68719476735) < 68719476736 := by unfold mx mn; omega
  have hb : 0 ≤ mx 0 (mn b 68719476735) ∧ mx 0 (mn b 68719476735) < 68719476736 := by unfold mx mn; omega
  generalize mx 0 (mn a 68719476735) = a at *
  generalize mx 0 (mn b 68719476735) = b at *
  have fa : beR a 5 = (strOfNums (leL 5 a).reverse, 0) := by unfold beR; rw [if_pos ⟨by decide, by decide, ha.1, by simp; omega⟩]; rfl
  have fb : beR b 5 = (strOfNums (leL 5 b).reverse, 0) := by unfold beR; rw [if_pos ⟨by decide, by decide, hb.1, by simp; omega⟩]; rfl
  refine Ev.bind (Be_ev a 5 (by omega)) ?_
  refine Ev.bind (Be_ev b 5 (by omega)) ?_
  rw [fa, fb]
  simp only [if_true, less5 a b (by omega) (by omega), bne_self_eq_false]
  refine Ev.step (fun k => lacquerlaw02_BytesOrder.j0.eq_2 _ _ _ _) ?_
  simp only [Bool.false_eq_true, if_false]
  refine Ev.bind (Coded_ev a) ?_
  refine Ev.bind (Coded_ev b) ?_
  have ca : codF a = (strOfNums (codR a), 0) := by unfold codF; rw [if_pos ha]
  have cb : codF b = (strOfNums (codR b), 0) := by unfold codF; rw [if_pos hb]
  rw [ca, cb]
  simp only [if_true]
  by_cases e : a = b
  · simp only [if_pos e]
    exact Ev.bind awake_ev (Ev.now _)
  simp only [if_neg e]
  by_cases c : ((strOfNums (codR b)).size : Int) < ((strOfNums (codR a)).size : Int)
  · simp only [if_pos c]
    exact Ev.bind awake_ev (Ev.now _)
  have c1 : (0 : Int) ≤ ((strOfNums (codR a)).size : Int) := by omega
  have c2 : ((strOfNums (codR a)).size : Int) ≤ ((strOfNums (codR b)).size : Int) := by omega
  have c3 : ¬ ((strOfNums (codR b)).extract 0 (strOfNums (codR a)).size).toList = (strOfNums (codR a)).toList := fun h => e (prefix_free a b ha hb (by omega) h)
  simp only [if_neg c, if_pos c1, if_pos c2, if_neg c3]
  exact Ev.bind awake_ev (Ev.now _)
end Go.Proofs.Ytfhkhbmpbmjlcaa.Pure
