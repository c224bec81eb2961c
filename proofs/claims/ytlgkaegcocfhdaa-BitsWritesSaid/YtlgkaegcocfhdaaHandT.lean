/- Contracts of layer 1, proved by hand: the reference's writer; both writers; BitsWrites. -/
import Derived.Test.YtlgkaegcocfhdaaMathA
import Derived.Test.YtlgkaegcocfhdaaHandO
import Derived.Test.YtlgkaegcocfhdaaHandM
import Derived.Laws.MakeOwn
import Derived.Test.YtlgkaegcocfhdaaHandP
namespace Go.Proofs.Ytlgkaegcocfhdaa.Hand
open Go.RowKit
set_option linter.unusedVariables false
set_option linter.unusedSimpArgs false

/-- The bytes, with noughts up to m. -/
def padP (bs : List Bool) (m : Nat) : List Int := (List.range m).map fun j => ((val ((bs.drop (8 * j)).take 8) 128 : Nat) : Int)
theorem padP_length (bs : List Bool) (m : Nat) : (padP bs m).length = m := by simp [padP]
theorem padP_pack (bs : List Bool) : padP bs ((bs.length + 7) / 8) = pack bs := rfl
theorem padP_nil (m : Nat) : padP [] m = List.replicate m 0 := by
  apply List.ext_getElem
  · simp [padP]
  · intro i h1 h2
    simp [padP, val]
theorem padP_get (bs : List Bool) (m j : Nat) (h : j < m) : (padP bs m).getD j 0 = ((val ((bs.drop (8 * j)).take 8) 128 : Nat) : Int) := by simp [padP, List.getD_eq_getElem?_getD, h]
def bitV (b : Bool) (r : Nat) : Nat := if b then 128 / 2 ^ r else 0
theorem padP_snoc (bs : List Bool) (b : Bool) (m : Nat) (h : bs.length / 8 < m) : padP (bs ++ [b]) m = (padP bs m).set (bs.length / 8) ((padP bs m).getD (bs.length / 8) 0 + (bitV b (bs.length % 8) : Nat)) ∧ 0 ≤ (padP bs m).getD (bs.length / 8) 0 ∧ (padP bs m).getD (bs.length / 8) 0 + (bitV b (bs.length % 8) : Nat) < 256 := by
  have hl := last_length bs
  have hx : (padP bs m).getD (bs.length / 8) 0 = ((val (bs.drop (8 * (bs.length / 8))) 128 : Nat) : Int) := by
    rw [padP_get bs m _ h, List.take_of_length_le (by omega)]
  have hs : val (bs.drop (8 * (bs.length / 8)) ++ [b]) 128 = val (bs.drop (8 * (bs.length / 8))) 128 + bitV b (bs.length % 8) := by
    rw [val_snoc, hl]
    rfl
  have hlt := val_lt (bs.drop (8 * (bs.length / 8)) ++ [b]) 7
  rw [show (2 : Nat) ^ 7 = 128 from rfl, hs] at hlt
  rw [hx]
  refine ⟨?_, by omega, by omega⟩
  apply List.ext_getElem
  · simp [padP]
  · intro j h1 h2
    rw [padP_length] at h1
    rw [List.getElem_set]
    by_cases hj : bs.length / 8 = j
    · rw [if_pos hj]
      subst hj
      simp only [padP, List.getElem_map, List.getElem_range, chunk_last, hs]
      omega
    · rw [if_neg hj]
      simp only [padP, List.getElem_map, List.getElem_range]
      rcases Nat.lt_or_ge j (bs.length / 8) with hlt | hge
      · rw [chunk_in bs b j (by omega)]
      · rw [List.drop_eq_nil_of_le (show (bs ++ [b]).length ≤ 8 * j by rw [List.length_append, List.length_singleton]; omega), List.drop_eq_nil_of_le (show bs.length ≤ 8 * j by omega)]
end Go.Proofs.Ytlgkaegcocfhdaa.Hand
namespace Go.Proofs.Ytlgkaegcocfhdaa.Hand
open Go.RowKit Go.Proofs.Ytlgkaegcocfhdaa.Q Go.Proofs.YtlgkaegcocfhdaaW.PrintWords Go.Proofs.YtlgkaegcocfhdaaW.PrintLast Go.Proofs.YtlgkaegcocfhdaaW.PrintMore
set_option linter.unusedVariables false
set_option linter.unusedSimpArgs false

def b01 (b : Bool) : Int := if b then 1 else 0
def ones (bs : List Bool) : List Int := bs.map b01
theorem ones_snoc (bs : List Bool) (b : Bool) : ones (bs ++ [b]) = ones bs ++ [b01 b] := by simp [ones]
theorem ones_length (bs : List Bool) : (ones bs).length = bs.length := by simp [ones]
/-- The reference's writer of these bits: a byte each. -/
def XW (w : World) (B g : Nat) (v : Value) (bs : List Bool) : Prop := w.heap[g]? = some (.cells #[v] 57 (0, 0)) ∧ BytesAt w B v (ones bs) ∧ B ≤ g
theorem XW.below {w w' : World} {B g : Nat} {v : Value} {bs : List Bool} (h : XW w B g v bs) (hb : Below w.heap.size w w') : XW w' B g v bs := ⟨blk_below h.1 hb, h.2.1.below hb, h.2.2⟩
theorem XW.lt {w : World} {B g : Nat} {v : Value} {bs : List Bool} (h : XW w B g v bs) : g < w.heap.size := blk_lt h.1
theorem XW.grown {W w1 : World} {B g : Nat} {v : Value} {bs : List Bool} (h : XW W B g v bs) (hg : W.grownBy w1 v.ownBlock) : w1.heap[g]? = some (.cells #[v] 57 (0, 0)) := by
  rw [hg.block g h.lt (fun e => ?_)]
  · exact h.1
  · exact Kd.R_ne h.2.1.all h.1 (by decide) e
theorem XW.put {w1 : World} {B g : Nat} {v v1 : Value} {bs : List Bool} {one : Bool} (hb : w1.heap[g]? = some (.cells #[v] 57 (0, 0))) (hr : BytesAt w1 B v1 (ones bs ++ [b01 one])) (hB : B ≤ g) : XW (w1.setCell ⟨g, 0, none⟩ v1) B g v1 (bs ++ [one]) := by
  rw [← ones_snoc] at hr
  exact ⟨blk_put hb 0 v1 rfl, hr.set hb (by decide) 0 v1, hB⟩
theorem bit_val (u k : Nat) (hu : u < 18446744073709551616) : IntKind.u8.wrap (Go.bits .and .u64 ((u : Int) / 2 ^ k) 1) = b01 (u.testBit k) := by
  have h := bit_of u k hu
  have h2 := and_mask_u64 1 (by decide) ((u : Int) / 2 ^ k) 1 (Int.ediv_nonneg (by omega) (Int.pow_nonneg (by omega))) (by
    have h1 : (u : Int) / 2 ^ k ≤ (u : Int) := Int.ediv_le_self _ (by omega)
    omega) (by decide)
  rw [h2] at h ⊢
  have h3 : (u : Int) / 2 ^ k % 2 ^ 1 = 0 ∨ (u : Int) / 2 ^ k % 2 ^ 1 = 1 := by
    have : (2 : Int) ^ 1 = 2 := by decide
    rw [this]
    generalize (u : Int) / 2 ^ k = z
    omega
  unfold b01
  rcases h3 with h3 | h3
  · rw [h3] at h ⊢
    rw [← h]
    decide
  · rw [h3] at h ⊢
    rw [← h]
    decide
set_option maxHeartbeats 4000000 in
set_option maxRecDepth 100000 in
theorem XPut_yes (u K : Nat) (hu : u < 18446744073709551616) (hK : K ≤ 64) (huk : u < 2 ^ K) (bs : List Bool) (B g : Nat) (v : Value) (w : World) (h : XW w B g v bs) (hl : bs.length + 64 < 140737488355328) :
    Calls Try.prog 43 #[.pointer (some ⟨g, 0, none⟩), .int .u64 u, .int .i64 K] w fun e w' => e = .returned (.int .i64 0) ∧ ∃ v', XW w' B g v' (bs ++ nbits u K) ∧ Moved B g w v w' v' := by
  have H := Aside0.mk h
  have k0 : (0 : Int) ≤ (K : Int) := by omega
  have k1 : ¬ ((K : Int) < 0) := by omega
  have k2 : ¬ ((K : Int) > 64) := by omega
  have hz : K < 64 → (u : Int) / 2 ^ K = 0 := by
    intro _
    have : (u : Int) < 2 ^ K := by exact_mod_cast huk
    exact Int.ediv_eq_zero_of_lt (by omega) this
  have ew : IntKind.u64.wrap (K : Int) = (K : Int) := by rw [u64_wrap]; omega
  clear h
  rcases Nat.lt_or_ge K 64 with h64 | h64
  · have k3 : (K : Int) < 64 := by omega
    have hz' := hz h64
    clear hz huk
    go_enter Try.func43, Try.ntmps43
    go_wp2
    go_loopg [7] K (fun k i wr => ∃ (v' : Value), k ≤ K ∧ i = .int .i64 ((k : Int) - 1) ∧ Aside0 (XW wr B g v' (bs ++ (nbits u K).take (K - k))) ∧ Aside0 (Moved B g w v wr v'))
    case atStart => exact ⟨v, by omega, rfl, by simpa using H, ⟨Moved.refl B g w v⟩⟩
    case round =>
      obtain ⟨v', hk, rfl, HE, HM⟩ := hrel
      cases gk with
      | zero =>
        go_wp2
        go_ret
        refine ⟨rfl, v', ?_, HM.out⟩
        have := HE.out
        rw [Nat.sub_zero, List.take_of_length_le (by rw [nbits_length]; omega)] at this
        exact this
      | succ k =>
        have hb := bit_val u k hu
        have ek : (((k + 1 : Nat) : Int) - 1) = (k : Int) := by omega
        rw [ek]
        have HLN : Aside0 ((ones (bs ++ (nbits u K).take (K - (k + 1)))).length < 140737488355328) := ⟨by
          rw [ones_length, List.length_append, List.length_take, nbits_length]; omega⟩
        have hnext : (nbits u K).take (K - k) = (nbits u K).take (K - (k + 1)) ++ [u.testBit k] := by
          have := nbits_take u K (K - (k + 1)) (by omega)
          rw [show K - (k + 1) + 1 = K - k by omega, show K - 1 - (K - (k + 1)) = k by omega] at this
          exact this
        obtain ⟨one, h1⟩ : ∃ one, u.testBit k = one := ⟨_, rfl⟩
        rw [h1] at hb hnext
        have HX := Aside0.mk hnext
        have kw : IntKind.u64.wrap (k : Int) = (k : Int) := by rw [u64_wrap]; omega
        have k64 : (k : Int) < 64 := by omega
        have kn0 : (0 : Int) ≤ (k : Int) := by omega
        have c0 : wr.cell? ⟨g, 0, none⟩ = some v' := blk_cell HE.out.1 0
        clear hnext h1 ek
        go_wp2_with (at_builtin; (with_reducible refine app_list (w0 := w) (B := B) (v := v') (xs := ones (bs ++ (nbits u K).take (K - (k + 1)))) (.tmp 35) (.tmp 42) (b01 one) ?_ ?_ ?_ ?_ ?_ ?_ ?_ ?_ ?_); rfl; rfl; rfl; rfl; exact HE.out.2.1; exact HM.out.below; exact Nat.le_trans HE.out.2.2 (Nat.le_of_lt HE.out.lt); exact HLN.out; intro v1 w1 HO1 HB1 HG1 HV1; have hb1 := XW.grown HE.out HG1.out; obtain ⟨A1, k1, e1⟩ := BytesAt.slice HO1.out; subst e1; have c11 : w1.cell? ⟨g, 0, none⟩ = some v' := blk_cell hb1 0; have f11 := blk_frozen hb1 0)
        go_roundg k
        case measure => omega
        case rel => exact ⟨_, by omega, rfl, ⟨by rw [HX.out, ← List.append_assoc]; exact XW.put hb1 HO1.out HE.out.2.2⟩, ⟨(Moved.app HM.out HG1.out HB1.out HV1.out).set HE.out.2.2 0 _⟩⟩
  · have k3 : ¬ (K : Int) < 64 := by omega
    clear hz huk
    go_enter Try.func43, Try.ntmps43
    go_wp2
    go_loopg [7] K (fun k i wr => ∃ (v' : Value), k ≤ K ∧ i = .int .i64 ((k : Int) - 1) ∧ Aside0 (XW wr B g v' (bs ++ (nbits u K).take (K - k))) ∧ Aside0 (Moved B g w v wr v'))
    case atStart => exact ⟨v, by omega, rfl, by simpa using H, ⟨Moved.refl B g w v⟩⟩
    case round =>
      obtain ⟨v', hk, rfl, HE, HM⟩ := hrel
      cases gk with
      | zero =>
        go_wp2
        go_ret
        refine ⟨rfl, v', ?_, HM.out⟩
        have := HE.out
        rw [Nat.sub_zero, List.take_of_length_le (by rw [nbits_length]; omega)] at this
        exact this
      | succ k =>
        have hb := bit_val u k hu
        have ek : (((k + 1 : Nat) : Int) - 1) = (k : Int) := by omega
        rw [ek]
        have HLN : Aside0 ((ones (bs ++ (nbits u K).take (K - (k + 1)))).length < 140737488355328) := ⟨by
          rw [ones_length, List.length_append, List.length_take, nbits_length]; omega⟩
        have hnext : (nbits u K).take (K - k) = (nbits u K).take (K - (k + 1)) ++ [u.testBit k] := by
          have := nbits_take u K (K - (k + 1)) (by omega)
          rw [show K - (k + 1) + 1 = K - k by omega, show K - 1 - (K - (k + 1)) = k by omega] at this
          exact this
        obtain ⟨one, h1⟩ : ∃ one, u.testBit k = one := ⟨_, rfl⟩
        rw [h1] at hb hnext
        have HX := Aside0.mk hnext
        have kw : IntKind.u64.wrap (k : Int) = (k : Int) := by rw [u64_wrap]; omega
        have k64 : (k : Int) < 64 := by omega
        have kn0 : (0 : Int) ≤ (k : Int) := by omega
        have c0 : wr.cell? ⟨g, 0, none⟩ = some v' := blk_cell HE.out.1 0
        clear hnext h1 ek
        go_wp2_with (at_builtin; (with_reducible refine app_list (w0 := w) (B := B) (v := v') (xs := ones (bs ++ (nbits u K).take (K - (k + 1)))) (.tmp 35) (.tmp 42) (b01 one) ?_ ?_ ?_ ?_ ?_ ?_ ?_ ?_ ?_); rfl; rfl; rfl; rfl; exact HE.out.2.1; exact HM.out.below; exact Nat.le_trans HE.out.2.2 (Nat.le_of_lt HE.out.lt); exact HLN.out; intro v1 w1 HO1 HB1 HG1 HV1; have hb1 := XW.grown HE.out HG1.out; obtain ⟨A1, k1, e1⟩ := BytesAt.slice HO1.out; subst e1; have c11 : w1.cell? ⟨g, 0, none⟩ = some v' := blk_cell hb1 0; have f11 := blk_frozen hb1 0)
        go_roundg k
        case measure => omega
        case rel => exact ⟨_, by omega, rfl, ⟨by rw [HX.out, ← List.append_assoc]; exact XW.put hb1 HO1.out HE.out.2.2⟩, ⟨(Moved.app HM.out HG1.out HB1.out HV1.out).set HE.out.2.2 0 _⟩⟩
set_option maxHeartbeats 4000000 in
theorem XPut_no (u : Nat) (hu : u < 18446744073709551616) (k : Int) (g : Nat) (w : World) (h : ¬ putP u k) :
    Calls Try.prog 43 #[.pointer (some ⟨g, 0, none⟩), .int .u64 u, .int .i64 k] w fun e w' => e = .returned (.int .i64 11) ∧ w = w' := by
  have hc : k < 0 ∨ 64 < k ∨ (0 ≤ k ∧ k < 64 ∧ ¬ u < 2 ^ k.toNat) := by
    unfold putP at h
    by_cases h0 : k < 0
    · exact .inl h0
    · by_cases h1 : 64 < k
      · exact .inr (.inl h1)
      · refine .inr (.inr ?_)
        by_cases h2 : k = 64
        · exfalso
          apply h
          subst h2
          exact ⟨by omega, by omega, by simpa using hu⟩
        · exact ⟨by omega, by omega, fun h3 => h ⟨by omega, by omega, h3⟩⟩
  clear h
  rcases hc with h | h | ⟨h0, h1, h2⟩
  · go_enter Try.func43, Try.ntmps43
    go_wp2
    go_ret
    exact ⟨rfl, rfl⟩
  · have k0 : ¬ k < 0 := by omega
    go_enter Try.func43, Try.ntmps43
    go_wp2
    go_ret
    exact ⟨rfl, rfl⟩
  · obtain ⟨K, rfl⟩ : ∃ K : Nat, k = (K : Int) := ⟨k.toNat, by omega⟩
    rw [Int.toNat_natCast] at h2
    have k1 : ¬ ((K : Int) < 0) := by omega
    have k2 : ¬ ((K : Int) > 64) := by omega
    have ew : IntKind.u64.wrap (K : Int) = (K : Int) := by rw [u64_wrap]; omega
    have hne : ((u : Int) / 2 ^ K != 0) = true := by
      have h3 : (u : Int) / 2 ^ K ≠ 0 := by
        have h4 : ((u / 2 ^ K : Nat) : Int) ≠ 0 := by
          have := Nat.div_pos (Nat.le_of_not_lt h2) (Nat.pow_pos (by decide : 0 < 2) : 0 < 2 ^ K)
          omega
        simpa using h4
      simpa using h3
    clear h2
    go_enter Try.func43, Try.ntmps43
    go_wp2
    go_ret
    exact ⟨rfl, rfl⟩
set_option maxHeartbeats 4000000 in
set_option maxRecDepth 100000 in
theorem XUnary_yes (N : Nat) (hN : N ≤ 16777216) (bs : List Bool) (B g : Nat) (v : Value) (w : World) (h : XW w B g v bs) (hl : bs.length + 16777300 < 140737488355328) :
    Calls Try.prog 45 #[.pointer (some ⟨g, 0, none⟩), .int .i64 N] w fun e w' => e = .returned (.int .i64 0) ∧ ∃ v', XW w' B g v' (noughts bs N ++ [true]) ∧ Moved B g w v w' v' := by
  have H := Aside0.mk h
  have n0 : ¬ ((N : Int) < 0) := by omega
  have n1 : ¬ ((N : Int) > 16777216) := by omega
  clear h
  go_enter Try.func45, Try.ntmps45
  go_wp2
  go_loopw [5] (fun iv wr => ∃ (i : Nat) (v' : Value), i ≤ N ∧ iv = .int .i64 i ∧ Aside0 (XW wr B g v' (noughts bs i)) ∧ Aside0 (Moved B g w v wr v')) (fun iv _ => N - (intOf iv).toNat)
  case atStart => exact ⟨0, v, by omega, rfl, by simpa [noughts] using H, ⟨Moved.refl B g w v⟩⟩
  case round =>
    obtain ⟨i, v', hi, rfl, HE, HM⟩ := hrel
    have HLN : Aside0 ((ones (noughts bs i)).length < 140737488355328) := ⟨by rw [ones_length, noughts_length]; omega⟩
    have c0 : wr.cell? ⟨g, 0, none⟩ = some v' := blk_cell HE.out.1 0
    by_cases hlt : i < N
    · have i1 : (i : Int) < (N : Int) := by omega
      go_wp2_with (at_builtin; (with_reducible refine app_list (w0 := w) (B := B) (v := v') (xs := ones (noughts bs i)) (.tmp 21) (.tmp 22) 0 ?_ ?_ ?_ ?_ ?_ ?_ ?_ ?_ ?_); rfl; rfl; rfl; rfl; exact HE.out.2.1; exact HM.out.below; exact Nat.le_trans HE.out.2.2 (Nat.le_of_lt HE.out.lt); exact HLN.out; intro v1 w1 HO1 HB1 HG1 HV1; have hb1 := XW.grown HE.out HG1.out; obtain ⟨A1, k1, e1⟩ := BytesAt.slice HO1.out; subst e1; have c11 : w1.cell? ⟨g, 0, none⟩ = some v' := blk_cell hb1 0; have f11 := blk_frozen hb1 0)
      go_roundw
      case rel => exact ⟨i + 1, _, by omega, by go_num, ⟨by rw [← noughts_one]; exact XW.put (one := false) hb1 HO1.out HE.out.2.2⟩, ⟨(Moved.app HM.out HG1.out HB1.out HV1.out).set HE.out.2.2 0 _⟩⟩
      case measure => simp [intOf]; omega
    · obtain rfl : i = N := by omega
      go_wp2_with (at_builtin; (with_reducible refine app_list (w0 := w) (B := B) (v := v') (xs := ones (noughts bs i)) (.tmp 30) (.tmp 31) 1 ?_ ?_ ?_ ?_ ?_ ?_ ?_ ?_ ?_); rfl; rfl; rfl; rfl; exact HE.out.2.1; exact HM.out.below; exact Nat.le_trans HE.out.2.2 (Nat.le_of_lt HE.out.lt); exact HLN.out; intro v1 w1 HO1 HB1 HG1 HV1; have hb1 := XW.grown HE.out HG1.out; obtain ⟨A1, k1, e1⟩ := BytesAt.slice HO1.out; subst e1; have c11 : w1.cell? ⟨g, 0, none⟩ = some v' := blk_cell hb1 0; have f11 := blk_frozen hb1 0)
      go_ret
      exact ⟨rfl, _, XW.put (one := true) hb1 HO1.out HE.out.2.2, (Moved.app HM.out HG1.out HB1.out HV1.out).set HE.out.2.2 0 _⟩
set_option maxHeartbeats 4000000 in
theorem XUnary_no (n : Int) (h : n < 0 ∨ 16777216 < n) (g : Nat) (w : World) : Calls Try.prog 45 #[.pointer (some ⟨g, 0, none⟩), .int .i64 n] w fun e w' => e = .returned (.int .i64 11) ∧ Drawn0 w w' := by
  rcases h with h | h
  · go_enter Try.func45, Try.ntmps45
    go_wp2
    go_ret
    exact ⟨rfl, Drawn0.refl _⟩
  · have h0 : ¬ n < 0 := by omega
    go_enter Try.func45, Try.ntmps45
    go_wp2
    go_ret
    exact ⟨rfl, Drawn0.refl _⟩
set_option maxHeartbeats 4000000 in
set_option maxRecDepth 100000 in
theorem XAlign_any (bs : List Bool) (B g : Nat) (v : Value) (w : World) (h : XW w B g v bs) (hl : bs.length + 64 < 140737488355328) :
    Calls Try.prog 47 #[.pointer (some ⟨g, 0, none⟩)] w fun e w' => e = .returned (.tuple #[]) ∧ ∃ v', XW w' B g v' (bs ++ List.replicate (padN bs.length) false) ∧ Moved B g w v w' v' := by
  have H := Aside0.mk h
  clear h
  go_enter Try.func47, Try.ntmps47
  go_wp2
  go_loopg [] (padN bs.length) (fun k wr => ∃ (i : Nat) (v' : Value), i + k = padN bs.length ∧ Aside0 (XW wr B g v' (noughts bs i)) ∧ Aside0 (Moved B g w v wr v'))
  case atStart => exact ⟨0, v, by omega, by simpa [noughts] using H, ⟨Moved.refl B g w v⟩⟩
  case round =>
    obtain ⟨i, v', hi, HE, HM⟩ := hrel
    have hp : padN bs.length = (8 - bs.length % 8) % 8 := rfl
    have HLN : Aside0 ((ones (noughts bs i)).length < 140737488355328) := ⟨by rw [ones_length, noughts_length]; omega⟩
    have c0 : wr.cell? ⟨g, 0, none⟩ = some v' := blk_cell HE.out.1 0
    obtain ⟨A, c, e0⟩ := Kd.R_slice HE.out.2.1
    rw [ones_length, noughts_length] at e0
    subst e0
    cases gk with
    | zero =>
      have e8 : (((bs.length + i : Nat) : Int)).tmod 8 = 0 := by rw [Int.tmod_eq_emod_of_nonneg (by omega)]; omega
      have e8' : ((bs.length : Int) + (i : Int)).tmod 8 = 0 := by rw [← e8]; rfl
      clear hp
      go_wp2
      refine bodyPost_end (results_none rfl _ _ _) rfl ?_
      obtain rfl : i = padN bs.length := by omega
      exact ⟨rfl, _, HE.out, HM.out⟩
    | succ k =>
      obtain ⟨r, hr⟩ : ∃ r, (bs.length + i) % 8 = r := ⟨_, rfl⟩
      have r0 : 0 < r := by omega
      have e8 : (((bs.length + i : Nat) : Int)).tmod 8 = (r : Int) := by rw [Int.tmod_eq_emod_of_nonneg (by omega)]; omega
      have e8' : ((bs.length : Int) + (i : Int)).tmod 8 = (r : Int) := by rw [← e8]; rfl
      have r1 : ((r : Int) != 0) = true := by simp; omega
      clear hp hr
      go_wp2_with (at_builtin; (with_reducible refine app_list (w0 := w) (B := B) (v := .slice A (bs.length + i) c) (xs := ones (noughts bs i)) (.tmp 13) (.tmp 14) 0 ?_ ?_ ?_ ?_ ?_ ?_ ?_ ?_ ?_); rfl; rfl; rfl; rfl; exact HE.out.2.1; exact HM.out.below; exact Nat.le_trans HE.out.2.2 (Nat.le_of_lt HE.out.lt); exact HLN.out; intro v1 w1 HO1 HB1 HG1 HV1; have hb1 := XW.grown HE.out HG1.out; obtain ⟨A1, k1, e1⟩ := BytesAt.slice HO1.out; subst e1; have c11 : w1.cell? ⟨g, 0, none⟩ = some (.slice A (bs.length + i) c) := blk_cell hb1 0; have f11 := blk_frozen hb1 0)
      go_roundg k
      case measure => omega
      case rel => exact ⟨i + 1, _, by omega, ⟨by rw [← noughts_one]; exact XW.put (one := false) hb1 HO1.out HE.out.2.2⟩, ⟨(Moved.app HM.out HG1.out HB1.out HV1.out).set HE.out.2.2 0 _⟩⟩
end Go.Proofs.Ytlgkaegcocfhdaa.Hand
namespace Go.Proofs.Ytlgkaegcocfhdaa.Hand
open Go.RowKit Go.Proofs.Ytlgkaegcocfhdaa.Q Go.Proofs.YtlgkaegcocfhdaaW.PrintWords Go.Proofs.YtlgkaegcocfhdaaW.PrintLast Go.Proofs.YtlgkaegcocfhdaaW.PrintMore
set_option linter.unusedVariables false
set_option linter.unusedSimpArgs false

theorem nbits_mod (u K : Nat) : nbits (u % 2 ^ K) K = nbits u K := by
  unfold nbits
  apply List.map_congr_left
  intro i hi
  rw [List.mem_range] at hi
  rw [Nat.testBit_mod_two_pow]
  simp
  omega
theorem xfits_any (n k : Int) (h0 : -9223372036854775808 ≤ n) (h1 : n ≤ 9223372036854775807) (w : World) : Calls Try.prog 50 #[.int .i64 n, .int .i64 k] w fun e w' => e = .returned (.bool (decide (fitsP n k))) ∧ Drawn0 w w' := by
  refine lacquerref01_Fits.calls (4 + 1) n k _ w ?_
  unfold lacquerref01_Fits.f
  by_cases a : k < 1
  · rw [if_pos a, decide_eq_false (show ¬ fitsP n k from fun q => by have := q.1; omega)]
    simp only [lacquerref01_Fits.j0]
    rw [if_pos trivial]
  · rw [if_neg a]
    simp only [lacquerref01_Fits.j0]
    by_cases b : k > 64
    · rw [if_pos (decide_eq_true b), decide_eq_false (show ¬ fitsP n k from fun q => by have := q.2.1; omega)]
    · rw [if_neg (by simpa using b)]
      by_cases c : k = 64
      · subst c
        rw [if_pos rfl, decide_eq_true (show fitsP n 64 from ⟨by omega, by omega, by simpa using h0, by
          have : (2 : Int) ^ ((64 : Int) - 1).toNat = 9223372036854775808 := by decide
          rw [this]; omega⟩)]
      · obtain ⟨K, rfl⟩ : ∃ K : Nat, k = (K : Int) + 1 := ⟨(k - 1).toNat, by omega⟩
        have hK : K ≤ 62 := by omega
        have e1 : (K : Int) + 1 - 1 = (K : Int) := by omega
        have e2 : ((K : Int) + 1 - 1).toNat = K := by omega
        have ew : IntKind.u64.wrap (K : Int) = (K : Int) := by rw [u64_wrap]; omega
        have hp : (2 : Int) ^ K ≤ 4611686018427387904 := by
          have h := Nat.pow_le_pow_right (n := 2) (by decide) hK
          have h2 : (2 : Nat) ^ 62 = 4611686018427387904 := by decide
          have h3 : ((2 ^ K : Nat) : Int) ≤ 4611686018427387904 := by omega
          simpa using h3
        have hp0 : (0 : Int) < 2 ^ K := Int.pow_pos (by decide)
        have es : shl .i64 1 (K : Int) = 2 ^ K := by
          unfold shl
          rw [Nat.min_eq_left (by simp [IntKind.bits]; omega), Int.toNat_natCast, Int.one_mul, IntKind.wrap_i64]
          omega
        rw [if_neg c, e1, wrap_id (K : Int) (by omega) (by omega), ew, if_pos (by omega), es]
        generalize hP : (2 : Int) ^ K = P at hp hp0
        have f1 : fitsP n ((K : Int) + 1) ↔ (-P ≤ n ∧ n < P) := by
          unfold fitsP
          rw [e2, hP]
          exact ⟨fun q => q.2.2, fun q => ⟨by omega, by omega, q.1, q.2⟩⟩
        rw [wrap_id (-P) (by omega) (by omega), wrap_id (P - 1) (by omega) (by omega)]
        by_cases d : n ≥ -P
        · rw [if_pos d]
          congr 1
          by_cases e : n ≤ P - 1
          · rw [decide_eq_true e, decide_eq_true (f1.2 ⟨d, by omega⟩)]
          · rw [decide_eq_false e, decide_eq_false (fun q => by have := (f1.1 q).2; omega)]
        · rw [if_neg d, decide_eq_false (fun q => d (f1.1 q).1)]
theorem mask_u64 (u K : Nat) (hu : u < 18446744073709551616) (hK : K < 64) : Go.bits .and .u64 (u : Int) (IntKind.u64.wrap (IntKind.u64.wrap (2 ^ K) - 1)) = ((u % 2 ^ K : Nat) : Int) := by
  have hp0 : (0 : Int) < 2 ^ K := Int.pow_pos (by decide)
  have hp : (2 : Int) ^ K ≤ 9223372036854775808 := by
    have h := Nat.pow_le_pow_right (n := 2) (by decide) (show K ≤ 63 by omega)
    have h2 : (2 : Nat) ^ 63 = 9223372036854775808 := by decide
    have h3 : ((2 ^ K : Nat) : Int) ≤ 9223372036854775808 := by omega
    simpa using h3
  rw [and_mask_u64 K (by omega) (u : Int) _ (by omega) (by omega) (by
    generalize (2 : Int) ^ K = P at hp0 hp
    rw [u64_wrap, u64_wrap]
    omega)]
  simp
set_option maxHeartbeats 4000000 in
set_option maxRecDepth 100000 in
theorem XSigned_yes (n : Int) (K : Nat) (h0 : -9223372036854775808 ≤ n) (h1 : n ≤ 9223372036854775807) (hf : fitsP n K) (bs : List Bool) (B g : Nat) (v : Value) (w : World) (h : XW w B g v bs) (hl : bs.length + 64 < 140737488355328) :
    Calls Try.prog 44 #[.pointer (some ⟨g, 0, none⟩), .int .i64 n, .int .i64 K] w fun e w' => e = .returned (.int .i64 0) ∧ ∃ v', XW w' B g v' (bs ++ nbits (wordN n) K) ∧ Moved B g w v w' v' := by
  have hc := xfits_any n K h0 h1
  rw [decide_eq_true hf] at hc
  have HC := Aside0.mk hc
  have hw := wordN_eq n
  have hwl := wordN_lt n
  have H := Aside0.mk h
  have hK : K ≤ 64 := by have := hf.2.1; omega
  have k0 : (0 : Int) ≤ (K : Int) := by omega
  have ew : IntKind.u64.wrap (K : Int) = (K : Int) := by rw [u64_wrap]; omega
  clear hc hf h
  generalize wordN n = u at hw hwl ⊢
  rcases Nat.lt_or_ge K 64 with h64 | h64
  · have k3 : (K : Int) < 64 := by omega
    go_enter Try.func44, Try.ntmps44
    go_wp2_with fail
    refine (HC.out _).mono ?_
    rintro e w1 ⟨rfl, ⟨m, rfl⟩⟩
    have H1 := Aside0.mk (H.out.below (pw_below_drewN (Below.refl _ _) m))
    have HM1 := Aside0.mk ((Moved.refl B g w v).drewN m)
    generalize w.drewN m = w1 at H1 HM1 ⊢
    have hmk := mask_u64 u K hwl h64
    have HMK := Aside0.mk hmk
    clear hmk
    go_wp2_with fail
    rw [HMK.out]
    have hml : u % 2 ^ K < 18446744073709551616 := Nat.lt_of_le_of_lt (Nat.mod_le _ _) hwl
    have HNB : Aside0 (nbits (u % 2 ^ K) K = nbits u K) := ⟨nbits_mod u K⟩
    have HP := Aside0.mk (XPut_yes (u % 2 ^ K) K hml hK (Nat.mod_lt _ (Nat.pow_pos (by decide))) bs B g v w1 H1.out hl)
    clear hml HMK
    generalize u % 2 ^ K = m at HNB HP ⊢
    refine HP.out.mono ?_
    rintro e w2 ⟨rfl, v2, hE, hM⟩
    rw [HNB.out] at hE
    have HE := Aside0.mk hE
    have HM := Aside0.mk (HM1.out.trans hM)
    clear hE hM
    go_wp2
    go_ret
    exact ⟨rfl, v2, HE.out, HM.out⟩
  · have k3 : ¬ (K : Int) < 64 := by omega
    have hu : u < 2 ^ K := by
      obtain rfl : K = 64 := by omega
      exact hwl
    have HU := Aside0.mk hu
    clear hu
    go_enter Try.func44, Try.ntmps44
    go_wp2_with fail
    refine (HC.out _).mono ?_
    rintro e w1 ⟨rfl, ⟨m, rfl⟩⟩
    have H1 := Aside0.mk (H.out.below (pw_below_drewN (Below.refl _ _) m))
    have HM1 := Aside0.mk ((Moved.refl B g w v).drewN m)
    generalize w.drewN m = w1 at H1 HM1 ⊢
    go_wp2_with fail
    refine (XPut_yes u K hwl hK HU.out bs B g v w1 H1.out hl).mono ?_
    rintro e w2 ⟨rfl, v2, hE, hM⟩
    have HE := Aside0.mk hE
    have HM := Aside0.mk (HM1.out.trans hM)
    clear hE hM
    go_wp2
    go_ret
    exact ⟨rfl, v2, HE.out, HM.out⟩
set_option maxHeartbeats 4000000 in
theorem XSigned_no (n k : Int) (h0 : -9223372036854775808 ≤ n) (h1 : n ≤ 9223372036854775807) (hf : ¬ fitsP n k) (g : Nat) (w : World) :
    Calls Try.prog 44 #[.pointer (some ⟨g, 0, none⟩), .int .i64 n, .int .i64 k] w fun e w' => e = .returned (.int .i64 11) ∧ Drawn0 w w' := by
  have hc := xfits_any n k h0 h1
  rw [decide_eq_false hf] at hc
  have HC := Aside0.mk hc
  clear hc hf
  go_enter Try.func44, Try.ntmps44
  go_wp2_with fail
  refine (HC.out _).mono ?_
  rintro e w1 ⟨rfl, hd⟩
  have HD := Aside0.mk hd
  clear hd
  go_wp2
  go_ret
  exact ⟨rfl, HD.out⟩
set_option maxHeartbeats 4000000 in
set_option maxRecDepth 100000 in
theorem XRice_no (n k : Int) (h0 : -9223372036854775808 ≤ n) (h1 : n ≤ 9223372036854775807) (h : ¬ riceP n k) (g : Nat) (w : World) :
    Calls Try.prog 46 #[.pointer (some ⟨g, 0, none⟩), .int .i64 n, .int .i64 k] w fun e w' => e = .returned (.int .i64 11) ∧ Drawn0 w w' := by
  by_cases k0 : k < 0
  · clear h
    go_enter Try.func46, Try.ntmps46
    go_wp2
    go_ret
    exact ⟨rfl, Drawn0.refl _⟩
  · by_cases k1 : 30 < k
    · clear h
      go_enter Try.func46, Try.ntmps46
      go_wp2
      go_ret
      exact ⟨rfl, Drawn0.refl _⟩
    · obtain ⟨K, rfl⟩ : ∃ K : Nat, k = (K : Int) := ⟨k.toNat, by omega⟩
      have hq : 16777216 < foldN n / 2 ^ K := by
        rcases Nat.lt_or_ge 16777216 (foldN n / 2 ^ K) with q | q
        · exact q
        · exact absurd ⟨by omega, by omega, by simpa using q⟩ h
      have hd : (foldN n : Int) / 2 ^ K = ((foldN n / 2 ^ K : Nat) : Int) := by simp
      have HF := Aside0.mk (Fold_any n h0 h1)
      have k2 : (0 : Int) ≤ (K : Int) := by omega
      have k3 : (K : Int) ≤ 30 := by omega
      have k4 : (K : Int) < 64 := by omega
      have ew : IntKind.u64.wrap (K : Int) = (K : Int) := by rw [u64_wrap]; omega
      obtain ⟨u, hu⟩ : ∃ u, foldN n = u := ⟨_, rfl⟩
      rw [hu] at hq hd HF
      obtain ⟨q, hqq⟩ : ∃ q, u / 2 ^ K = q := ⟨_, rfl⟩
      rw [hqq] at hq hd
      have hq' : (16777216 : Int) < (q : Int) := by omega
      clear h hu hqq k0 k1
      go_enter Try.func46, Try.ntmps46
      go_wp2_with fail
      refine (HF.out _).mono ?_
      rintro e w1 ⟨rfl, hdr⟩
      have HD := Aside0.mk hdr
      clear hdr
      go_wp2
      go_ret
      exact ⟨rfl, HD.out⟩
set_option maxHeartbeats 4000000 in
set_option maxRecDepth 100000 in
theorem XRice_yes (n : Int) (K : Nat) (h0 : -9223372036854775808 ≤ n) (h1 : n ≤ 9223372036854775807) (h : riceP n K) (bs : List Bool) (B g : Nat) (v : Value) (w : World) (hE : XW w B g v bs) (hl : bs.length + 16777400 < 140737488355328) :
    Calls Try.prog 46 #[.pointer (some ⟨g, 0, none⟩), .int .i64 n, .int .i64 K] w fun e w' => e = .returned (.int .i64 0) ∧ ∃ v', XW w' B g v' (bs ++ riceB n K) ∧ Moved B g w v w' v' := by
  have hq : foldN n / 2 ^ K ≤ 16777216 := by simpa using h.2.2
  have hd : (foldN n : Int) / 2 ^ K = ((foldN n / 2 ^ K : Nat) : Int) := by simp
  have HF := Aside0.mk (Fold_any n h0 h1)
  have hlt := foldN_lt n h0 h1
  have k2 : (0 : Int) ≤ (K : Int) := by omega
  have k3 : (K : Int) ≤ 30 := h.2.1
  have k4 : (K : Int) < 64 := by omega
  have ew : IntKind.u64.wrap (K : Int) = (K : Int) := by rw [u64_wrap]; omega
  have HE := Aside0.mk hE
  have HRB : Aside0 (riceB n K = List.replicate (foldN n / 2 ^ K) false ++ true :: nbits (foldN n) K) := ⟨rfl⟩
  obtain ⟨u, hu⟩ : ∃ u, foldN n = u := ⟨_, rfl⟩
  rw [hu] at hq hd HF hlt HRB
  have hmk := mask_u64 u K hlt (by omega)
  have HMK := Aside0.mk hmk
  have hml : u % 2 ^ K < 18446744073709551616 := Nat.lt_of_le_of_lt (Nat.mod_le _ _) hlt
  have hml2 : u % 2 ^ K < 2 ^ K := Nat.mod_lt _ (Nat.pow_pos (by decide))
  have HNB : Aside0 (nbits (u % 2 ^ K) K = nbits u K) := ⟨nbits_mod u K⟩
  obtain ⟨q, hqq⟩ : ∃ q, u / 2 ^ K = q := ⟨_, rfl⟩
  rw [hqq] at hq hd HRB
  have hq' : ¬ (q : Int) > 16777216 := by omega
  have hqw : IntKind.i64.wrap (q : Int) = (q : Int) := by rw [IntKind.wrap_i64]; omega
  have HML := Aside0.mk (And.intro hml hml2)
  clear h hu hqq hE hmk hml hml2
  go_enter Try.func46, Try.ntmps46
  go_wp2_with fail
  refine (HF.out _).mono ?_
  rintro e w1 ⟨rfl, ⟨m1, rfl⟩⟩
  go_wp2_with fail
  refine (HF.out _).mono ?_
  rintro e w1 ⟨rfl, ⟨m2, rfl⟩⟩
  have HE1 : Aside0 (XW ((w.drewN m1).drewN m2) B g v bs) := ⟨(HE.out.below (pw_below_drewN (Below.refl _ _) m1)).below (pw_below_drewN (Below.refl _ _) m2)⟩
  have HM1 : Aside0 (Moved B g w v ((w.drewN m1).drewN m2) v) := ⟨((Moved.refl B g w v).drewN m1).drewN m2⟩
  generalize (w.drewN m1).drewN m2 = wy at HE1 HM1 ⊢
  go_wp2_with fail
  refine (XUnary_yes q (by omega) bs B g v wy HE1.out (by omega)).mono ?_
  rintro e w3 ⟨rfl, v3, hE, hM⟩
  have HE3 := Aside0.mk hE
  have HM3 := Aside0.mk (HM1.out.trans hM)
  clear hE hM
  go_wp2_with fail
  rw [HMK.out]
  obtain ⟨hml, hml2⟩ := HML.out
  have HP := Aside0.mk (XPut_yes (u % 2 ^ K) K hml (by omega) hml2 _ B g v3 w3 HE3.out (by rw [List.length_append, noughts_length]; simp; omega))
  clear hml hml2 HMK HML
  generalize u % 2 ^ K = m at HNB HP ⊢
  refine HP.out.mono ?_
  rintro e w4 ⟨rfl, v4, hE, hM⟩
  rw [HNB.out] at hE
  have HE4 := Aside0.mk hE
  have HM4 := Aside0.mk (HM3.out.trans hM)
  clear hE hM
  go_wp2
  go_ret
  refine ⟨rfl, v4, ?_, HM4.out⟩
  rw [HRB.out]
  have := HE4.out
  unfold noughts at this
  simpa using this
end Go.Proofs.Ytlgkaegcocfhdaa.Hand
namespace Go.Proofs.Ytlgkaegcocfhdaa.Hand
open Go.RowKit Go.Proofs.Ytlgkaegcocfhdaa.Q Go.Proofs.YtlgkaegcocfhdaaW.PrintWords Go.Proofs.YtlgkaegcocfhdaaW.PrintLast Go.Proofs.YtlgkaegcocfhdaaW.PrintMore
set_option linter.unusedVariables false
set_option linter.unusedSimpArgs false

def zrow8 (n : Nat) : Array Value := ((List.replicate n 0).map (Value.int .u8)).toArray
theorem made_zrow8 (n : Nat) : madeCells (Value.int .u8 0).cells (n * 1) = zrow8 n := by
  apply Array.ext'
  simp [madeCells, zrow8, Value.cells, Nat.mod_one]
  apply List.ext_getElem
  · simp
  · intro i h1 h2
    simp
theorem make8 (n : Nat) (hn : n ≤ 1073741824) (w : World) : (Instr.makeSlice 55 (.int .i64 n) (.int .i64 n)).run Try.prog w = .ok (.slice (some ⟨w.heap.size, 0, none⟩) n n) (w.alloc (.cells (zrow8 n) 5)) := by
  obtain ⟨i0, hi, hz0, hz1, hz2⟩ := info_parts infoB
  have := run_make w 55 5 i0 _ Try.underlying55 hi hz0 .i64 .i64 n n (by omega) (by omega) (by rw [hz2]; omega) (by omega)
  rw [Int.toNat_natCast, hz1, made_zrow8] at this
  exact this
theorem zeros8 (w : World) (n : Nat) (hn : n ≤ 1073741824) : BytesAt (w.alloc (.cells (zrow8 n) 5)) w.heap.size (.slice (some ⟨w.heap.size, 0, none⟩) n n) (List.replicate n 0) := by
  refine BytesAt.of (ok := fun _ => True) (Kd.R_of_own ?_ (fun _ _ => trivial))
  have := World.ownsRow_lit (base := w.heap.size) (e := 5) (size := 1) w (zrow8 n) n (Nat.le_refl _) (by unfold maxLen; omega) (by simp [zrow8])
  simpa [encs, zrow8] using this
theorem bit_up (b : Bool) (r : Nat) (hr : r < 8) : IntKind.u8.wrap (b01 b * 2 ^ (7 - r)) = (bitV b r : Nat) := by
  revert b r
  decide
set_option maxHeartbeats 8000000 in
set_option maxRecDepth 100000 in
theorem XBytes_any (bs : List Bool) (B g : Nat) (v : Value) (w : World) (h : XW w B g v bs) (hl : bs.length ≤ 4294967296) :
    Calls Try.prog 30 #[.pointer (some ⟨g, 0, none⟩)] w fun e w' => e = .returned (.string (strOfNums (pack bs))) ∧ Below w.heap.size w w' := by
  have H := Aside0.mk h
  have c0 : w.cell? ⟨g, 0, none⟩ = some v := blk_cell h.1 0
  obtain ⟨A, c, rfl⟩ := Kd.R_slice h.2.1
  rw [ones_length] at c0 H
  obtain ⟨n, hn⟩ : ∃ n, bs.length = n := ⟨_, rfl⟩
  have HN := Aside0.mk hn
  rw [hn] at c0 H hl
  obtain ⟨m, hm⟩ : ∃ m, (n + 7) / 8 = m := ⟨_, rfl⟩
  have hm1 : m ≤ 1073741824 := by omega
  have e1 : IntKind.i64.wrap ((n : Int) + 7) = (n : Int) + 7 := by rw [IntKind.wrap_i64]; omega
  have e2 : ((n : Int) + 7).tdiv 8 = (m : Int) := by rw [Int.tdiv_eq_ediv_of_nonneg (by omega)]; omega
  have e3 : IntKind.i64.wrap (m : Int) = (m : Int) := by rw [IntKind.wrap_i64]; omega
  have hmk := make8 m hm1
  have HZ := Aside0.mk (zeros8 w m hm1)
  have HB0 := Aside0.mk ((Below.refl w.heap.size w).alloc (Nat.le_refl _) (.cells (zrow8 m) 5))
  have hpk : padP bs m = pack bs := by rw [← padP_pack, hn, hm]
  have HPK := Aside0.mk hpk
  have HM := Aside0.mk hm
  clear h hn hm hm1 hpk
  go_enter Try.func30, Try.ntmps30
  go_wp2
  clear c0
  generalize w.alloc (.cells (zrow8 m) 5) = w1 at HZ HB0 ⊢
  obtain ⟨b, hb⟩ : ∃ b, w.heap.size = b := ⟨_, rfl⟩
  have HBS := Aside0.mk hb
  rw [hb] at HZ HB0 ⊢
  clear hb
  go_loopw [4] (fun iv wr => ∃ i : Nat, i ≤ n ∧ iv = .int .i64 i ∧ Aside0 (BytesAt wr b (.slice (some ⟨b, 0, none⟩) m m) (padP (bs.take i) m)) ∧ Aside0 (Below b w wr)) (fun iv _ => n - (intOf iv).toNat)
  case atStart => exact ⟨0, Nat.zero_le _, rfl, ⟨by rw [List.take_zero, padP_nil]; exact HZ.out⟩, HB0⟩
  case round =>
    clear HZ HB0
    obtain ⟨i, hi, rfl, HR, HB⟩ := hrel
    have HX : Aside0 (XW wr B g (.slice A n c) bs) := ⟨H.out.below (by rw [HBS.out]; exact HB.out)⟩
    have c0 : wr.cell? ⟨g, 0, none⟩ = some (.slice A n c) := blk_cell HX.out.1 0
    by_cases hlt : i < n
    · have i0 : (0 : Int) ≤ (i : Int) := by omega
      have i1 : (i : Int) < (n : Int) := by omega
      obtain ⟨b2, c2, e4, cb, _, _, _⟩ := HX.out.2.1.place i (by rw [ones_length, HN.out]; exact hlt)
      rw [ones_length, HN.out] at e4
      injection e4 with e4 _ e5
      subst e4 e5
      have hbi : bs[i]? = some (bs[i]'(by rw [HN.out]; exact hlt)) := List.getElem?_eq_getElem _
      have ht : bs.take (i + 1) = bs.take i ++ [bs[i]'(by rw [HN.out]; exact hlt)] := List.take_succ_eq_append_getElem _
      generalize bs[i]'_ = one at hbi ht
      have ho : (ones bs).getD i 0 = b01 one := by
        unfold ones
        rw [List.getD_eq_getElem?_getD, List.getElem?_map, hbi]
        rfl
      rw [ho] at cb
      have htl : (bs.take i).length = i := by rw [List.length_take, HN.out]; omega
      have hps := padP_snoc (bs.take i) one m (by rw [htl]; have := HM.out; omega)
      rw [← ht, htl] at hps
      obtain ⟨hp1, hp2, hp3⟩ := hps
      obtain ⟨q, hq⟩ : ∃ q, i / 8 = q := ⟨_, rfl⟩
      obtain ⟨r, hr⟩ : ∃ r, i % 8 = r := ⟨_, rfl⟩
      have hr8 : r < 8 := by omega
      have hqm : q < m := by have := HM.out; omega
      rw [hq, hr] at hp1 hp3
      rw [hq] at hp2
      obtain ⟨b3, c3, e6, cq, fq, hBq, _⟩ := HR.out.place q (by rw [padP_length]; exact hqm)
      rw [padP_length] at e6
      injection e6 with e6 _ e7
      injection e6 with e6
      injection e6 with e6
      subst e6 e7
      have hbu := bit_up one r hr8
      generalize (padP (bs.take i) m).getD q 0 = x at hp1 hp2 hp3 cq
      generalize bitV one r = y at hbu hp1 hp3
      have HP1 := Aside0.mk hp1
      have ex : IntKind.u8.wrap (x + (y : Int)) = x + (y : Int) := by rw [u8_wrap]; omega
      have q0 : (0 : Int) ≤ (q : Int) := by omega
      have q1 : (q : Int) < (m : Int) := by omega
      have d1 : (i : Int).tdiv 8 = (q : Int) := by rw [Int.tdiv_eq_ediv_of_nonneg (by omega)]; omega
      have d2 : (i : Int).tmod 8 = (r : Int) := by rw [Int.tmod_eq_emod_of_nonneg (by omega)]; omega
      have d3 : IntKind.i64.wrap (q : Int) = (q : Int) := by rw [IntKind.wrap_i64]; omega
      have d4 : IntKind.i64.wrap (7 - (r : Int)) = 7 - (r : Int) := by rw [IntKind.wrap_i64]; omega
      have d5 : IntKind.u64.wrap (7 - (r : Int)) = ((7 - r : Nat) : Int) := by rw [u64_wrap]; omega
      have r0 : (0 : Int) ≤ ((7 - r : Nat) : Int) := by omega
      have r8 : ((7 - r : Nat) : Int) < 8 := by omega
      generalize 7 - r = sh at hbu d5 r0 r8
      generalize b01 one = z at cb hbu
      clear hbi ht ho htl hp1 hp2 hp3 hq hr
      go_wp2
      go_still_tail 19, (by kernel_rfl)
      repeat still_step
      have HR2 : Aside0 (BytesAt wr.drew b (.slice (some ⟨b, 0, none⟩) m m) (padP (bs.take i) m)) := ⟨HR.out.below (below_drew (Below.refl _ _))⟩
      have HB2 : Aside0 (Below b w wr.drew) := ⟨below_drew HB.out⟩
      have cq2 : wr.drew.cell? ⟨b, q, none⟩ = some (.int .u8 x) := cq
      have fq2 : wr.drew.frozen? ⟨b, q, none⟩ = false := fq
      clear c0 cb cq fq HR HB HX
      change wpList _ _ _ _ _ wr.drew
      generalize wr.drew = wz at HR2 HB2 cq2 fq2 ⊢
      go_wp2
      go_roundw
      case rel => exact ⟨i + 1, by omega, by go_num, ⟨by rw [HP1.out]; exact HR2.out.store q _⟩, ⟨HB2.out.setCell (p := ⟨b, q, none⟩) (Nat.le_refl _) _⟩⟩
      case measure => simp [intOf]; omega
    · obtain rfl : i = n := by omega
      have hcv := HR.out.text
      rw [show bs.take i = bs by rw [← HN.out, List.take_length], HPK.out] at hcv
      go_wp2
      go_ret
      exact ⟨rfl, by rw [HBS.out]; exact HB.out⟩
end Go.Proofs.Ytlgkaegcocfhdaa.Hand
namespace Go.Proofs.Ytlgkaegcocfhdaa.Hand
open Go.RowKit Go.Proofs.Ytlgkaegcocfhdaa.Q Go.Proofs.YtlgkaegcocfhdaaW.PrintWords Go.Proofs.YtlgkaegcocfhdaaW.PrintLast Go.Proofs.YtlgkaegcocfhdaaW.PrintMore
set_option linter.unusedVariables false
set_option linter.unusedSimpArgs false

theorem xdo_put (d : Deed) (hd : InD d) (hk : d.k = 0) (bs : List Bool) (B g : Nat) (v : Value) (w : World) (h : XW w B g v bs) (hl : bs.length + 16777400 < 140737488355328) :
    Calls Try.prog 43 #[.pointer (some ⟨g, 0, none⟩), .int .u64 d.u, .int .i64 d.w] w fun e w' => e = .returned (.int .i64 (errD d)) ∧ ∃ v', XW w' B g v' (stepD bs d) ∧ Moved B g w v w' v' := by
  have ho : okDeed d = putP d.u.toNat d.w := by unfold okDeed; rw [if_pos hk]
  have hc : codeD bs.length d = nbits d.u.toNat d.w.toNat := by unfold codeD; rw [if_pos hk]
  have hu : d.u = ((d.u.toNat : Nat) : Int) := by have := hd.u0; omega
  unfold errD stepD addD
  rw [hc]
  by_cases hp : putP d.u.toNat d.w
  · rw [if_pos (ho ▸ hp), if_pos (ho ▸ hp)]
    have hw : d.w = ((d.w.toNat : Nat) : Int) := by have := hp.1; omega
    have := XPut_yes d.u.toNat d.w.toNat (by have := hd.u1; omega) (by have := hp.2.1; omega) hp.2.2 bs B g v w h (by omega)
    rw [← hu, ← hw] at this
    exact this
  · rw [if_neg (ho ▸ hp), if_neg (ho ▸ hp)]
    have := XPut_no d.u.toNat (by have := hd.u1; omega) d.w g w hp
    rw [← hu] at this
    refine this.mono ?_
    rintro e w2 ⟨rfl, rfl⟩
    exact ⟨rfl, v, h, Moved.refl _ _ _ _⟩
theorem xdo_signed (d : Deed) (hd : InD d) (hk : d.k = 1) (bs : List Bool) (B g : Nat) (v : Value) (w : World) (h : XW w B g v bs) (hl : bs.length + 16777400 < 140737488355328) :
    Calls Try.prog 44 #[.pointer (some ⟨g, 0, none⟩), .int .i64 d.n, .int .i64 d.w] w fun e w' => e = .returned (.int .i64 (errD d)) ∧ ∃ v', XW w' B g v' (stepD bs d) ∧ Moved B g w v w' v' := by
  have ho : okDeed d = fitsP d.n d.w := by unfold okDeed; rw [if_neg (by omega), if_pos hk]
  have hc : codeD bs.length d = nbits (wordN d.n) d.w.toNat := by unfold codeD; rw [if_neg (by omega), if_pos hk]
  unfold errD stepD addD
  rw [hc]
  by_cases hp : fitsP d.n d.w
  · rw [if_pos (ho ▸ hp), if_pos (ho ▸ hp)]
    have hw : d.w = ((d.w.toNat : Nat) : Int) := by have := hp.1; omega
    have := XSigned_yes d.n d.w.toNat hd.n0 hd.n1 (by rw [← hw]; exact hp) bs B g v w h (by omega)
    rw [← hw] at this
    exact this
  · rw [if_neg (ho ▸ hp), if_neg (ho ▸ hp)]
    refine (XSigned_no d.n d.w hd.n0 hd.n1 hp g w).mono ?_
    rintro e w2 ⟨rfl, ⟨m, rfl⟩⟩
    exact ⟨rfl, v, h.below (pw_below_drewN (Below.refl _ _) m), (Moved.refl _ _ _ _).drewN m⟩
theorem xdo_unary (d : Deed) (hd : InD d) (hk : d.k = 2) (bs : List Bool) (B g : Nat) (v : Value) (w : World) (h : XW w B g v bs) (hl : bs.length + 16777400 < 140737488355328) :
    Calls Try.prog 45 #[.pointer (some ⟨g, 0, none⟩), .int .i64 d.n] w fun e w' => e = .returned (.int .i64 (errD d)) ∧ ∃ v', XW w' B g v' (stepD bs d) ∧ Moved B g w v w' v' := by
  have ho : okDeed d = (0 ≤ d.n ∧ d.n ≤ 16777216) := by unfold okDeed; rw [if_neg (by omega), if_neg (by omega), if_pos hk]
  have hc : codeD bs.length d = List.replicate d.n.toNat false ++ [true] := by unfold codeD; rw [if_neg (by omega), if_neg (by omega), if_pos hk]
  unfold errD stepD addD
  rw [hc]
  by_cases hp : 0 ≤ d.n ∧ d.n ≤ 16777216
  · rw [if_pos (ho ▸ hp), if_pos (ho ▸ hp)]
    have hw : d.n = ((d.n.toNat : Nat) : Int) := by have := hp.1; omega
    have := XUnary_yes d.n.toNat (by omega) bs B g v w h (by omega)
    rw [← hw] at this
    unfold noughts at this
    rw [List.append_assoc] at this
    exact this
  · rw [if_neg (ho ▸ hp), if_neg (ho ▸ hp)]
    refine (XUnary_no d.n (by omega) g w).mono ?_
    rintro e w2 ⟨rfl, ⟨m, rfl⟩⟩
    exact ⟨rfl, v, h.below (pw_below_drewN (Below.refl _ _) m), (Moved.refl _ _ _ _).drewN m⟩
theorem xdo_rice (d : Deed) (hd : InD d) (hk : d.k = 3) (bs : List Bool) (B g : Nat) (v : Value) (w : World) (h : XW w B g v bs) (hl : bs.length + 16777400 < 140737488355328) :
    Calls Try.prog 46 #[.pointer (some ⟨g, 0, none⟩), .int .i64 d.n, .int .i64 d.w] w fun e w' => e = .returned (.int .i64 (errD d)) ∧ ∃ v', XW w' B g v' (stepD bs d) ∧ Moved B g w v w' v' := by
  have ho : okDeed d = riceP d.n d.w := by unfold okDeed; rw [if_neg (by omega), if_neg (by omega), if_neg (by omega), if_pos hk]
  have hc : codeD bs.length d = riceB d.n d.w.toNat := by unfold codeD; rw [if_neg (by omega), if_neg (by omega), if_neg (by omega), if_pos hk]
  unfold errD stepD addD
  rw [hc]
  by_cases hp : riceP d.n d.w
  · rw [if_pos (ho ▸ hp), if_pos (ho ▸ hp)]
    have hw : d.w = ((d.w.toNat : Nat) : Int) := by have := hp.1; omega
    have := XRice_yes d.n d.w.toNat hd.n0 hd.n1 (by rw [← hw]; exact hp) bs B g v w h (by omega)
    rw [← hw] at this
    exact this
  · rw [if_neg (ho ▸ hp), if_neg (ho ▸ hp)]
    refine (XRice_no d.n d.w hd.n0 hd.n1 hp g w).mono ?_
    rintro e w2 ⟨rfl, ⟨m, rfl⟩⟩
    exact ⟨rfl, v, h.below (pw_below_drewN (Below.refl _ _) m), (Moved.refl _ _ _ _).drewN m⟩
theorem xdo_align (d : Deed) (h0 : d.k ≠ 0) (h1 : d.k ≠ 1) (h2 : d.k ≠ 2) (h3 : d.k ≠ 3) (bs : List Bool) (B g : Nat) (v : Value) (w : World) (h : XW w B g v bs) (hl : bs.length + 16777400 < 140737488355328) :
    errD d = 0 ∧ Calls Try.prog 47 #[.pointer (some ⟨g, 0, none⟩)] w fun e w' => e = .returned (.tuple #[]) ∧ ∃ v', XW w' B g v' (stepD bs d) ∧ Moved B g w v w' v' := by
  have ho : okDeed d = True := by unfold okDeed; rw [if_neg h0, if_neg h1, if_neg h2, if_neg h3]
  have hc : codeD bs.length d = List.replicate (padN bs.length) false := by unfold codeD; rw [if_neg h0, if_neg h1, if_neg h2, if_neg h3]
  unfold errD stepD addD
  rw [hc, if_pos (by rw [ho]; trivial), if_pos (by rw [ho]; trivial)]
  exact ⟨rfl, XAlign_any bs B g v w h (by omega)⟩
theorem XW.deed {w w' : World} {B g k : Nat} {v v' : Value} {bs : List Bool} {cs : Array Value} (hw : XW w B g v bs) (hm : Moved B g w v w' v') (hk : w.heap[k]? = some (.cells cs 27 (0, 0))) : w'.heap[k]? = some (.cells cs 27 (0, 0)) := by
  refine blk_kept hk hm.kept (fun h => ?_)
  rcases h with e | e
  · subst e
    have h1 := hw.1
    rw [hk] at h1
    injection h1 with h1
    injection h1 with h1 h2
    exact absurd h2 (by decide)
  · exact (Kd.R_ne hw.2.1.all hk (by decide)) e.symm
/-- Both writers, and a deed in a block. -/
structure BX (w0 : World) (B g gx q : Nat) (y : Deed) (W : World) (v vx : Value) (bs bx : List Bool) : Prop where
  w : WAt W B g v bs
  x : XW W B gx vx bx
  ap : Apart g v gx vx
  d : W.heap[q]? = some (.cells #[.int .i64 y.k, .int .i64 y.w, .int .i64 y.n, .int .u64 y.u] 27 (0, 0))
  b : Below B w0 W
theorem BX.stepw {w0 : World} {B g gx q : Nat} {y : Deed} {W W' : World} {v vx v' : Value} {bs bx bs' : List Bool} (h : BX w0 B g gx q y W v vx bs bx) (hw : WAt W' B g v' bs') (hm : Moved B g W v W' v') : BX w0 B g gx q y W' v' vx bs' bx :=
  ⟨hw, ⟨h.ap.block hm h.x.1, h.ap.row hm h.x.2.1, h.x.2.2⟩, h.ap.moved hm h.x.lt h.x.2.1.lt, h.w.deed hm h.d, h.b.trans hm.below⟩
theorem BX.stepx {w0 : World} {B g gx q : Nat} {y : Deed} {W W' : World} {v vx vx' : Value} {bs bx bx' : List Bool} (h : BX w0 B g gx q y W v vx bs bx) (hx : XW W' B gx vx' bx') (hm : Moved B gx W vx W' vx') : BX w0 B g gx q y W' v vx' bs bx' :=
  ⟨⟨h.ap.symm.block hm h.w.1, h.ap.symm.row hm h.w.2.1, h.w.2.2⟩, hx, (h.ap.symm.moved hm h.w.lt h.w.2.1.lt).symm, h.x.deed hm h.d, h.b.trans hm.below⟩
theorem BX.below {w0 : World} {B g gx q : Nat} {y : Deed} {W W' : World} {v vx : Value} {bs bx : List Bool} (h : BX w0 B g gx q y W v vx bs bx) (hb : Below W.heap.size W W') : BX w0 B g gx q y W' v vx bs bx :=
  ⟨h.w.below hb, h.x.below hb, h.ap, blk_below h.d hb, h.b.trans (hb.mono (by have := h.w.2.2; have := Raw.lt h.w; omega))⟩
theorem BX.cells {w0 : World} {B g gx q : Nat} {y : Deed} {W : World} {v vx : Value} {bs bx : List Bool} (h : BX w0 B g gx q y W v vx bs bx) : W.cell? ⟨q, 1, none⟩ = some (.int .i64 y.w) ∧ W.cell? ⟨q, 2, none⟩ = some (.int .i64 y.n) ∧ W.cell? ⟨q, 3, none⟩ = some (.int .u64 y.u) := ⟨blk_cell h.d 1, blk_cell h.d 2, blk_cell h.d 3⟩
set_option maxHeartbeats 8000000 in
set_option maxRecDepth 100000 in
theorem both_put (y : Deed) (hin : InD y) (hk : y.k = 0) (bs : List Bool) (B g gx : Nat) (v vx : Value) (w : World) (hq : BX w B g gx w.heap.size y (w.alloc (.cells #[.int .i64 y.k, .int .i64 y.w, .int .i64 y.n, .int .u64 y.u] 27)) v vx bs bs) (hl : bs.length + 16777400 < 140737488355328) :
    Calls Try.prog 28 #[.pointer (some ⟨g, 0, none⟩), .pointer (some ⟨gx, 0, none⟩), .agg #[.int .i64 y.k, .int .i64 y.w, .int .i64 y.n, .int .u64 y.u]] w fun e w' => e = .returned (.tuple #[.int .i64 (errD y), .int .i64 (errD y)]) ∧ ∃ v' vx', BX w B g gx w.heap.size y w' v' vx' (stepD bs y) (stepD bs y) := by
  have HPW : Aside0 (∀ W v vx bx, BX w B g gx w.heap.size y W v vx bs bx → Calls Try.prog 31 #[.pointer (some ⟨g, 0, none⟩), .int .u64 y.u, .int .i64 y.w] W fun e w' => e = .returned (.int .i64 (errD y)) ∧ ∃ v', BX w B g gx w.heap.size y w' v' vx (stepD bs y) bx) := ⟨fun W v vx bx h => (do_put y hin hk bs B g v W h.w (by omega)).mono (fun e w' ⟨h1, v', h2, h3⟩ => ⟨h1, v', h.stepw h2 h3⟩)⟩
  have HPX : Aside0 (∀ W v vx bw, BX w B g gx w.heap.size y W v vx bw bs → Calls Try.prog 43 #[.pointer (some ⟨gx, 0, none⟩), .int .u64 y.u, .int .i64 y.w] W fun e w' => e = .returned (.int .i64 (errD y)) ∧ ∃ vx', BX w B g gx w.heap.size y w' v vx' bw (stepD bs y)) := ⟨fun W v vx bw h => (xdo_put y hin hk bs B gx vx W h.x hl).mono (fun e w' ⟨h1, v', h2, h3⟩ => ⟨h1, v', h.stepx h2 h3⟩)⟩
  have HSK : Aside0 (∀ W v vx b1 b2, BX w B g gx w.heap.size y W v vx b1 b2 → W.cell? ⟨w.heap.size, 1, none⟩ = some (.int .i64 y.w) ∧ W.cell? ⟨w.heap.size, 2, none⟩ = some (.int .i64 y.n) ∧ W.cell? ⟨w.heap.size, 3, none⟩ = some (.int .u64 y.u)) := ⟨fun W v vx b1 b2 h => h.cells⟩
  have HQ := Aside0.mk hq
  rw [hk] at HQ ⊢
  generalize errD y = er at HPW HPX ⊢
  generalize stepD bs y = b2 at HPW HPX ⊢
  clear hq
  go_enter Try.func28, Try.ntmps28
  go_wp2
  have hpx : BX w B g gx w.heap.size y (w.alloc (.cells #[.int .i64 0, .int .i64 y.w, .int .i64 y.n, .int .u64 y.u] 27)).drew v vx bs bs := HQ.out.below (below_drew (Below.refl _ _))
  clear HQ
  generalize w.alloc (.cells #[.int .i64 0, .int .i64 y.w, .int .i64 y.n, .int .u64 y.u] 27) = wb at hpx ⊢
  obtain ⟨q, hqq⟩ : ∃ q, w.heap.size = q := ⟨_, rfl⟩
  have HQQ := Aside0.mk hqq
  rw [hqq] at HPW HPX HSK hpx ⊢
  clear hqq
  go_region_held3 (fun W => W.cell? ⟨q, 1, none⟩ = some (.int .i64 y.w) ∧ W.cell? ⟨q, 2, none⟩ = some (.int .i64 y.n) ∧ W.cell? ⟨q, 3, none⟩ = some (.int .u64 y.u)) (first | exact HSK.out _ _ _ _ _ hpx)
    ((first | (go_at_call 31; (with_reducible refine (HPW.out _ _ _ _ hpx).mono ?_); rintro e w4 ⟨rfl, v4, hpx4⟩; clear hpx; have hpx := hpx4; clear hpx4) | (go_at_call 43; (with_reducible refine (HPX.out _ _ _ _ hpx).mono ?_); rintro e w4 ⟨rfl, v4, hpx4⟩; clear hpx; have hpx := hpx4; clear hpx4)))
  all_goals
    have HR := Aside0.mk hpx
    clear hpx
    go_wp2
    go_ret2
    rw [HQQ.out]
    exact ⟨rfl, _, _, HR.out⟩
set_option maxHeartbeats 8000000 in
set_option maxRecDepth 100000 in
theorem both_signed (y : Deed) (hin : InD y) (hk : y.k = 1) (bs : List Bool) (B g gx : Nat) (v vx : Value) (w : World) (hq : BX w B g gx w.heap.size y (w.alloc (.cells #[.int .i64 y.k, .int .i64 y.w, .int .i64 y.n, .int .u64 y.u] 27)) v vx bs bs) (hl : bs.length + 16777400 < 140737488355328) :
    Calls Try.prog 28 #[.pointer (some ⟨g, 0, none⟩), .pointer (some ⟨gx, 0, none⟩), .agg #[.int .i64 y.k, .int .i64 y.w, .int .i64 y.n, .int .u64 y.u]] w fun e w' => e = .returned (.tuple #[.int .i64 (errD y), .int .i64 (errD y)]) ∧ ∃ v' vx', BX w B g gx w.heap.size y w' v' vx' (stepD bs y) (stepD bs y) := by
  have HPW : Aside0 (∀ W v vx bx, BX w B g gx w.heap.size y W v vx bs bx → Calls Try.prog 32 #[.pointer (some ⟨g, 0, none⟩), .int .i64 y.n, .int .i64 y.w] W fun e w' => e = .returned (.int .i64 (errD y)) ∧ ∃ v', BX w B g gx w.heap.size y w' v' vx (stepD bs y) bx) := ⟨fun W v vx bx h => (do_signed y hin hk bs B g v W h.w (by omega)).mono (fun e w' ⟨h1, v', h2, h3⟩ => ⟨h1, v', h.stepw h2 h3⟩)⟩
  have HPX : Aside0 (∀ W v vx bw, BX w B g gx w.heap.size y W v vx bw bs → Calls Try.prog 44 #[.pointer (some ⟨gx, 0, none⟩), .int .i64 y.n, .int .i64 y.w] W fun e w' => e = .returned (.int .i64 (errD y)) ∧ ∃ vx', BX w B g gx w.heap.size y w' v vx' bw (stepD bs y)) := ⟨fun W v vx bw h => (xdo_signed y hin hk bs B gx vx W h.x hl).mono (fun e w' ⟨h1, v', h2, h3⟩ => ⟨h1, v', h.stepx h2 h3⟩)⟩
  have HSK : Aside0 (∀ W v vx b1 b2, BX w B g gx w.heap.size y W v vx b1 b2 → W.cell? ⟨w.heap.size, 1, none⟩ = some (.int .i64 y.w) ∧ W.cell? ⟨w.heap.size, 2, none⟩ = some (.int .i64 y.n) ∧ W.cell? ⟨w.heap.size, 3, none⟩ = some (.int .u64 y.u)) := ⟨fun W v vx b1 b2 h => h.cells⟩
  have HQ := Aside0.mk hq
  rw [hk] at HQ ⊢
  generalize errD y = er at HPW HPX ⊢
  generalize stepD bs y = b2 at HPW HPX ⊢
  clear hq
  go_enter Try.func28, Try.ntmps28
  go_wp2
  have hpx : BX w B g gx w.heap.size y (w.alloc (.cells #[.int .i64 1, .int .i64 y.w, .int .i64 y.n, .int .u64 y.u] 27)).drew v vx bs bs := HQ.out.below (below_drew (Below.refl _ _))
  clear HQ
  generalize w.alloc (.cells #[.int .i64 1, .int .i64 y.w, .int .i64 y.n, .int .u64 y.u] 27) = wb at hpx ⊢
  obtain ⟨q, hqq⟩ : ∃ q, w.heap.size = q := ⟨_, rfl⟩
  have HQQ := Aside0.mk hqq
  rw [hqq] at HPW HPX HSK hpx ⊢
  clear hqq
  go_region_held3 (fun W => W.cell? ⟨q, 1, none⟩ = some (.int .i64 y.w) ∧ W.cell? ⟨q, 2, none⟩ = some (.int .i64 y.n) ∧ W.cell? ⟨q, 3, none⟩ = some (.int .u64 y.u)) (first | exact HSK.out _ _ _ _ _ hpx)
    ((first | (go_at_call 32; (with_reducible refine (HPW.out _ _ _ _ hpx).mono ?_); rintro e w4 ⟨rfl, v4, hpx4⟩; clear hpx; have hpx := hpx4; clear hpx4) | (go_at_call 44; (with_reducible refine (HPX.out _ _ _ _ hpx).mono ?_); rintro e w4 ⟨rfl, v4, hpx4⟩; clear hpx; have hpx := hpx4; clear hpx4)))
  all_goals
    have HR := Aside0.mk hpx
    clear hpx
    go_wp2
    go_ret2
    rw [HQQ.out]
    exact ⟨rfl, _, _, HR.out⟩
set_option maxHeartbeats 8000000 in
set_option maxRecDepth 100000 in
theorem both_unary (y : Deed) (hin : InD y) (hk : y.k = 2) (bs : List Bool) (B g gx : Nat) (v vx : Value) (w : World) (hq : BX w B g gx w.heap.size y (w.alloc (.cells #[.int .i64 y.k, .int .i64 y.w, .int .i64 y.n, .int .u64 y.u] 27)) v vx bs bs) (hl : bs.length + 16777400 < 140737488355328) :
    Calls Try.prog 28 #[.pointer (some ⟨g, 0, none⟩), .pointer (some ⟨gx, 0, none⟩), .agg #[.int .i64 y.k, .int .i64 y.w, .int .i64 y.n, .int .u64 y.u]] w fun e w' => e = .returned (.tuple #[.int .i64 (errD y), .int .i64 (errD y)]) ∧ ∃ v' vx', BX w B g gx w.heap.size y w' v' vx' (stepD bs y) (stepD bs y) := by
  have HPW : Aside0 (∀ W v vx bx, BX w B g gx w.heap.size y W v vx bs bx → Calls Try.prog 33 #[.pointer (some ⟨g, 0, none⟩), .int .i64 y.n] W fun e w' => e = .returned (.int .i64 (errD y)) ∧ ∃ v', BX w B g gx w.heap.size y w' v' vx (stepD bs y) bx) := ⟨fun W v vx bx h => (do_unary y hin hk bs B g v W h.w (by omega)).mono (fun e w' ⟨h1, v', h2, h3⟩ => ⟨h1, v', h.stepw h2 h3⟩)⟩
  have HPX : Aside0 (∀ W v vx bw, BX w B g gx w.heap.size y W v vx bw bs → Calls Try.prog 45 #[.pointer (some ⟨gx, 0, none⟩), .int .i64 y.n] W fun e w' => e = .returned (.int .i64 (errD y)) ∧ ∃ vx', BX w B g gx w.heap.size y w' v vx' bw (stepD bs y)) := ⟨fun W v vx bw h => (xdo_unary y hin hk bs B gx vx W h.x hl).mono (fun e w' ⟨h1, v', h2, h3⟩ => ⟨h1, v', h.stepx h2 h3⟩)⟩
  have HSK : Aside0 (∀ W v vx b1 b2, BX w B g gx w.heap.size y W v vx b1 b2 → W.cell? ⟨w.heap.size, 1, none⟩ = some (.int .i64 y.w) ∧ W.cell? ⟨w.heap.size, 2, none⟩ = some (.int .i64 y.n) ∧ W.cell? ⟨w.heap.size, 3, none⟩ = some (.int .u64 y.u)) := ⟨fun W v vx b1 b2 h => h.cells⟩
  have HQ := Aside0.mk hq
  rw [hk] at HQ ⊢
  generalize errD y = er at HPW HPX ⊢
  generalize stepD bs y = b2 at HPW HPX ⊢
  clear hq
  go_enter Try.func28, Try.ntmps28
  go_wp2
  have hpx : BX w B g gx w.heap.size y (w.alloc (.cells #[.int .i64 2, .int .i64 y.w, .int .i64 y.n, .int .u64 y.u] 27)).drew v vx bs bs := HQ.out.below (below_drew (Below.refl _ _))
  clear HQ
  generalize w.alloc (.cells #[.int .i64 2, .int .i64 y.w, .int .i64 y.n, .int .u64 y.u] 27) = wb at hpx ⊢
  obtain ⟨q, hqq⟩ : ∃ q, w.heap.size = q := ⟨_, rfl⟩
  have HQQ := Aside0.mk hqq
  rw [hqq] at HPW HPX HSK hpx ⊢
  clear hqq
  go_region_held3 (fun W => W.cell? ⟨q, 1, none⟩ = some (.int .i64 y.w) ∧ W.cell? ⟨q, 2, none⟩ = some (.int .i64 y.n) ∧ W.cell? ⟨q, 3, none⟩ = some (.int .u64 y.u)) (first | exact HSK.out _ _ _ _ _ hpx)
    ((first | (go_at_call 33; (with_reducible refine (HPW.out _ _ _ _ hpx).mono ?_); rintro e w4 ⟨rfl, v4, hpx4⟩; clear hpx; have hpx := hpx4; clear hpx4) | (go_at_call 45; (with_reducible refine (HPX.out _ _ _ _ hpx).mono ?_); rintro e w4 ⟨rfl, v4, hpx4⟩; clear hpx; have hpx := hpx4; clear hpx4)))
  all_goals
    have HR := Aside0.mk hpx
    clear hpx
    go_wp2
    go_ret2
    rw [HQQ.out]
    exact ⟨rfl, _, _, HR.out⟩
set_option maxHeartbeats 8000000 in
set_option maxRecDepth 100000 in
theorem both_rice (y : Deed) (hin : InD y) (hk : y.k = 3) (bs : List Bool) (B g gx : Nat) (v vx : Value) (w : World) (hq : BX w B g gx w.heap.size y (w.alloc (.cells #[.int .i64 y.k, .int .i64 y.w, .int .i64 y.n, .int .u64 y.u] 27)) v vx bs bs) (hl : bs.length + 16777400 < 140737488355328) :
    Calls Try.prog 28 #[.pointer (some ⟨g, 0, none⟩), .pointer (some ⟨gx, 0, none⟩), .agg #[.int .i64 y.k, .int .i64 y.w, .int .i64 y.n, .int .u64 y.u]] w fun e w' => e = .returned (.tuple #[.int .i64 (errD y), .int .i64 (errD y)]) ∧ ∃ v' vx', BX w B g gx w.heap.size y w' v' vx' (stepD bs y) (stepD bs y) := by
  have HPW : Aside0 (∀ W v vx bx, BX w B g gx w.heap.size y W v vx bs bx → Calls Try.prog 11 #[.pointer (some ⟨g, 0, none⟩), .int .i64 y.n, .int .i64 y.w] W fun e w' => e = .returned (.int .i64 (errD y)) ∧ ∃ v', BX w B g gx w.heap.size y w' v' vx (stepD bs y) bx) := ⟨fun W v vx bx h => (do_rice y hin hk bs B g v W h.w (by omega)).mono (fun e w' ⟨h1, v', h2, h3⟩ => ⟨h1, v', h.stepw h2 h3⟩)⟩
  have HPX : Aside0 (∀ W v vx bw, BX w B g gx w.heap.size y W v vx bw bs → Calls Try.prog 46 #[.pointer (some ⟨gx, 0, none⟩), .int .i64 y.n, .int .i64 y.w] W fun e w' => e = .returned (.int .i64 (errD y)) ∧ ∃ vx', BX w B g gx w.heap.size y w' v vx' bw (stepD bs y)) := ⟨fun W v vx bw h => (xdo_rice y hin hk bs B gx vx W h.x hl).mono (fun e w' ⟨h1, v', h2, h3⟩ => ⟨h1, v', h.stepx h2 h3⟩)⟩
  have HSK : Aside0 (∀ W v vx b1 b2, BX w B g gx w.heap.size y W v vx b1 b2 → W.cell? ⟨w.heap.size, 1, none⟩ = some (.int .i64 y.w) ∧ W.cell? ⟨w.heap.size, 2, none⟩ = some (.int .i64 y.n) ∧ W.cell? ⟨w.heap.size, 3, none⟩ = some (.int .u64 y.u)) := ⟨fun W v vx b1 b2 h => h.cells⟩
  have HQ := Aside0.mk hq
  rw [hk] at HQ ⊢
  generalize errD y = er at HPW HPX ⊢
  generalize stepD bs y = b2 at HPW HPX ⊢
  clear hq
  go_enter Try.func28, Try.ntmps28
  go_wp2
  have hpx : BX w B g gx w.heap.size y (w.alloc (.cells #[.int .i64 3, .int .i64 y.w, .int .i64 y.n, .int .u64 y.u] 27)).drew v vx bs bs := HQ.out.below (below_drew (Below.refl _ _))
  clear HQ
  generalize w.alloc (.cells #[.int .i64 3, .int .i64 y.w, .int .i64 y.n, .int .u64 y.u] 27) = wb at hpx ⊢
  obtain ⟨q, hqq⟩ : ∃ q, w.heap.size = q := ⟨_, rfl⟩
  have HQQ := Aside0.mk hqq
  rw [hqq] at HPW HPX HSK hpx ⊢
  clear hqq
  go_region_held3 (fun W => W.cell? ⟨q, 1, none⟩ = some (.int .i64 y.w) ∧ W.cell? ⟨q, 2, none⟩ = some (.int .i64 y.n) ∧ W.cell? ⟨q, 3, none⟩ = some (.int .u64 y.u)) (first | exact HSK.out _ _ _ _ _ hpx)
    ((first | (go_at_call 11; (with_reducible refine (HPW.out _ _ _ _ hpx).mono ?_); rintro e w4 ⟨rfl, v4, hpx4⟩; clear hpx; have hpx := hpx4; clear hpx4) | (go_at_call 46; (with_reducible refine (HPX.out _ _ _ _ hpx).mono ?_); rintro e w4 ⟨rfl, v4, hpx4⟩; clear hpx; have hpx := hpx4; clear hpx4)))
  all_goals
    have HR := Aside0.mk hpx
    clear hpx
    go_wp2
    go_ret2
    rw [HQQ.out]
    exact ⟨rfl, _, _, HR.out⟩
set_option maxHeartbeats 8000000 in
set_option maxRecDepth 100000 in
theorem both_align (y : Deed) (hk0 : y.k ≠ 0) (hk1 : y.k ≠ 1) (hk2 : y.k ≠ 2) (hk3 : y.k ≠ 3) (bs : List Bool) (B g gx : Nat) (v vx : Value) (w : World) (hq : BX w B g gx w.heap.size y (w.alloc (.cells #[.int .i64 y.k, .int .i64 y.w, .int .i64 y.n, .int .u64 y.u] 27)) v vx bs bs) (hl : bs.length + 16777400 < 140737488355328) :
    Calls Try.prog 28 #[.pointer (some ⟨g, 0, none⟩), .pointer (some ⟨gx, 0, none⟩), .agg #[.int .i64 y.k, .int .i64 y.w, .int .i64 y.n, .int .u64 y.u]] w fun e w' => e = .returned (.tuple #[.int .i64 (errD y), .int .i64 (errD y)]) ∧ ∃ v' vx', BX w B g gx w.heap.size y w' v' vx' (stepD bs y) (stepD bs y) := by
  have b0 : (y.k == 0) = false := by simpa using hk0
  have b1 : (y.k == 1) = false := by simpa using hk1
  have b2 : (y.k == 2) = false := by simpa using hk2
  have b3 : (y.k == 3) = false := by simpa using hk3
  have HPW := Aside0.mk (fun W v h => do_align y hk0 hk1 hk2 hk3 bs B g v W h (by omega))
  have HPX := Aside0.mk (fun W v h => xdo_align y hk0 hk1 hk2 hk3 bs B gx v W h hl)
  have her : errD y = 0 := by
    have ho : okDeed y = True := by unfold okDeed; rw [if_neg hk0, if_neg hk1, if_neg hk2, if_neg hk3]
    unfold errD
    rw [if_pos (by rw [ho]; trivial)]
  rw [her]
  have HQ := Aside0.mk hq
  generalize stepD bs y = b2 at HPW HPX ⊢
  clear hq her hk0 hk1 hk2 hk3
  go_enter Try.func28, Try.ntmps28
  go_wp2_with fail
  refine (HPW.out _ _ HQ.out.w).2.mono ?_
  rintro e w4 ⟨rfl, v4, h1, h2⟩
  have HQ4 := Aside0.mk (HQ.out.stepw h1 h2)
  clear h1 h2 HQ
  go_wp2_with fail
  refine (HPX.out _ _ HQ4.out.x).2.mono ?_
  rintro e w5 ⟨rfl, v5, h1, h2⟩
  have HQ5 := Aside0.mk (HQ4.out.stepx h1 h2)
  clear h1 h2 HQ4
  go_wp2
  go_ret2
  exact ⟨rfl, _, _, HQ5.out⟩
end Go.Proofs.Ytlgkaegcocfhdaa.Hand
namespace Go.Proofs.Ytlgkaegcocfhdaa.Hand
open Go.RowKit Go.Proofs.Ytlgkaegcocfhdaa.Q Go.Proofs.YtlgkaegcocfhdaaW.PrintWords Go.Proofs.YtlgkaegcocfhdaaW.PrintLast Go.Proofs.YtlgkaegcocfhdaaW.PrintMore
set_option linter.unusedVariables false
set_option linter.unusedSimpArgs false

theorem both_any (y : Deed) (hin : InD y) (bs : List Bool) (B g gx : Nat) (v vx : Value) (w : World) (hw : WAt w B g v bs) (hx : XW w B gx vx bs) (ha : Apart g v gx vx) (hl : bs.length + 16777400 < 140737488355328) :
    Calls Try.prog 28 #[.pointer (some ⟨g, 0, none⟩), .pointer (some ⟨gx, 0, none⟩), .agg #[.int .i64 y.k, .int .i64 y.w, .int .i64 y.n, .int .u64 y.u]] w fun e w' => e = .returned (.tuple #[.int .i64 (errD y), .int .i64 (errD y)]) ∧ ∃ v' vx', WAt w' B g v' (stepD bs y) ∧ XW w' B gx vx' (stepD bs y) ∧ Apart g v' gx vx' ∧ Below B w w' := by
  have hb : Below w.heap.size w (w.alloc (.cells #[.int .i64 y.k, .int .i64 y.w, .int .i64 y.n, .int .u64 y.u] 27)) := below_alloc (Below.refl _ _) _
  have hq : BX w B g gx w.heap.size y (w.alloc (.cells #[.int .i64 y.k, .int .i64 y.w, .int .i64 y.n, .int .u64 y.u] 27)) v vx bs bs :=
    ⟨hw.below hb, hx.below hb, ha, blk_new w _, hb.mono (by have := hw.2.2; have := Raw.lt hw; omega)⟩
  have fin : ∀ (e : Ending) (w' : World), (e = .returned (.tuple #[.int .i64 (errD y), .int .i64 (errD y)]) ∧ ∃ v' vx', BX w B g gx w.heap.size y w' v' vx' (stepD bs y) (stepD bs y)) → (e = .returned (.tuple #[.int .i64 (errD y), .int .i64 (errD y)]) ∧ ∃ v' vx', WAt w' B g v' (stepD bs y) ∧ XW w' B gx vx' (stepD bs y) ∧ Apart g v' gx vx' ∧ Below B w w') := by
    rintro e w' ⟨h1, v', vx', h⟩
    exact ⟨h1, v', vx', h.w, h.x, h.ap, h.b⟩
  by_cases hk0 : y.k = 0
  · exact (both_put y hin hk0 bs B g gx v vx w hq hl).mono fin
  · by_cases hk1 : y.k = 1
    · exact (both_signed y hin hk1 bs B g gx v vx w hq hl).mono fin
    · by_cases hk2 : y.k = 2
      · exact (both_unary y hin hk2 bs B g gx v vx w hq hl).mono fin
      · by_cases hk3 : y.k = 3
        · exact (both_rice y hin hk3 bs B g gx v vx w hq hl).mono fin
        · exact (both_align y hk0 hk1 hk2 hk3 bs B g gx v vx w hq hl).mono fin
theorem both_new (w : World) : WAt ((w.alloc (.cells #[.int .i64 0, .slice none 0 0] 66)).alloc (.cells #[.slice none 0 0] 57)) w.heap.size w.heap.size (.slice none 0 0) [] ∧ XW ((w.alloc (.cells #[.int .i64 0, .slice none 0 0] 66)).alloc (.cells #[.slice none 0 0] 57)) w.heap.size (w.heap.size + 1) (.slice none 0 0) [] ∧ Below w.heap.size w ((w.alloc (.cells #[.int .i64 0, .slice none 0 0] 66)).alloc (.cells #[.slice none 0 0] 57)) := by
  have h1 := new_at w w.heap.size (Nat.le_refl _)
  have hB := (((Below.refl w.heap.size w).alloc (Nat.le_refl _) (.cells #[.int .i64 0, .slice none 0 0] 66)).alloc (by simp) (.cells #[.slice none 0 0] 57))
  have s1 : (w.alloc (.cells #[.int .i64 0, .slice none 0 0] 66)).heap.size = w.heap.size + 1 := by simp
  generalize w.alloc (.cells #[.int .i64 0, .slice none 0 0] 66) = w1 at h1 s1 hB ⊢
  have h2 := blk_new w1 (.cells #[.slice none 0 0] 57)
  rw [s1] at h2
  exact ⟨h1.below (below_alloc (Below.refl _ _) _), ⟨h2, BytesAt.nil _ _, by omega⟩, hB⟩
set_option maxHeartbeats 16000000 in
set_option maxRecDepth 100000 in
theorem Writes_any (A : Option Addr) (n c : Nat) (V : Nat → Deed) (w : World) (hA : Came w A n V) :
    Calls Try.prog 5 #[.slice A n c] w fun e w' => e = .returned (.bool true) ∧ Below w.heap.size w w' := by
  have hup := Try.underlying22
  have HA := Aside0.mk hA
  clear hA
  obtain ⟨nw1, nw2, nw3⟩ := both_new w
  go_enter Try.func5, Try.ntmps5
  go_wp2_with fail
  refine (New_any _).mono ?_
  rintro e w1 ⟨rfl, rfl⟩
  go_wp2
  generalize (w.alloc (.cells #[.int .i64 0, .slice none 0 0] 66)).alloc (.cells #[.slice none 0 0] 57) = w1 at nw1 nw2 nw3 ⊢
  obtain ⟨b, hb⟩ : ∃ b, w.heap.size = b := ⟨_, rfl⟩
  have HBB := Aside0.mk hb
  rw [hb] at nw1 nw2 nw3 ⊢
  have HW := Aside0.mk nw1
  have HX := Aside0.mk nw2
  have HB := Aside0.mk nw3
  clear nw1 nw2 nw3 hb
  go_loopw [5, 6, 7] (fun i _ _ wr => ∃ (d : Nat) (v vx : Value) (bs : List Bool), d ≤ n ∧ d ≤ 100 ∧ i = .int .i64 d ∧ Aside0 (WAt wr b b v bs) ∧ Aside0 (XW wr b (b + 1) vx bs) ∧ Aside0 (Apart b v (b + 1) vx) ∧ Aside0 (bs.length ≤ 16777300 * d) ∧ Aside0 (Below b w wr)) (fun i _ _ _ => n - (intOf i).toNat)
  case atStart => exact ⟨0, _, _, [], by omega, by omega, rfl, HW, HX, ⟨⟨by omega, by simp [Value.ownBlock], by simp [Value.ownBlock], by simp [Value.ownBlock]⟩⟩, ⟨by simp⟩, HB⟩
  case round =>
    clear HW HX HB
    obtain ⟨d, v, vx, bs, hd, hd2, rfl, HW, HX, HAP, HS, HB⟩ := hrel
    by_cases hlt : d < n ∧ d < 100
    · obtain ⟨l1, l2⟩ := hlt
      have i0 : (0 : Int) ≤ (d : Int) := by omega
      have i1 : (d : Int) < (n : Int) := by omega
      have i2 : (d : Int) < 100 := by omega
      obtain ⟨hin, ad, rfl, k0, k1, k2, k3⟩ := HA.out d l1
      rw [Nat.add_zero] at k0
      rw [add_field _ _ 1 (by omega)] at k1
      rw [add_field _ _ 2 (by omega)] at k2
      rw [add_field _ _ 3 (by omega)] at k3
      have HIN := Aside0.mk hin
      clear hin
      generalize V d = y at k0 k1 k2 k3 HIN
      have HK : Aside0 (∀ W, Below b w W → W.cell? (ad.add (d * 4)) = some (.int .i64 y.k) ∧ W.cell? ⟨(ad.add (d * 4)).block, (ad.add (d * 4)).off + 1, none⟩ = some (.int .i64 y.w) ∧ W.cell? ⟨(ad.add (d * 4)).block, (ad.add (d * 4)).off + 2, none⟩ = some (.int .i64 y.n) ∧ W.cell? ⟨(ad.add (d * 4)).block, (ad.add (d * 4)).off + 3, none⟩ = some (.int .u64 y.u)) := ⟨fun W hW => by
        rw [← HBB.out] at hW
        exact ⟨pw_cell_below hW k0, pw_cell_below hW k1, pw_cell_below hW k2, pw_cell_below hW k3⟩⟩
      clear k0 k1 k2 k3
      obtain ⟨k0, k1, k2, k3⟩ := HK.out _ HB.out
      go_wp2_with fail
      refine (light_any y.k y.w y.n y.u HIN.out.n0 HIN.out.n1 _).mono ?_
      rintro e w2 ⟨rfl, hB2⟩
      have HW2 := Aside0.mk (HW.out.below hB2)
      have HX2 := Aside0.mk (HX.out.below hB2)
      have HB2 : Aside0 (Below b w w2) := ⟨HB.out.trans (hB2.mono (by have := HX.out.lt; omega))⟩
      clear hB2 k0 k1 k2 k3 HW HX HB
      obtain ⟨k0, k1, k2, k3⟩ := HK.out _ HB2.out
      generalize decide (lightP y.k y.w y.n) = lb
      cases lb with
      | false =>
        go_wp2
        go_roundw
        case rel => exact ⟨d + 1, v, vx, bs, by omega, by omega, by go_num, HW2, HX2, HAP, ⟨by have := HS.out; omega⟩, HB2⟩
        case measure => simp [intOf]; omega
      | true =>
        have HSL := Aside0.mk (step_length bs y)
        have HBO := Aside0.mk (both_any y HIN.out bs b b (b + 1) v vx w2 HW2.out HX2.out HAP.out (by have := HS.out; omega))
        go_wp2_with fail
        refine HBO.out.mono ?_
        rintro e w3 ⟨rfl, v3, vx3, h1, h2, h3, h4⟩
        have HW3 := Aside0.mk h1
        have HX3 := Aside0.mk h2
        have HAP3 := Aside0.mk h3
        have HB3 := Aside0.mk (HB2.out.trans h4)
        clear h1 h2 h3 h4 HW2 HX2 HAP HB2 k0 k1 k2 k3 HBO
        generalize errD y = er
        obtain ⟨bs3, hbs⟩ : ∃ bs3, stepD bs y = bs3 := ⟨_, rfl⟩
        rw [hbs] at HW3 HX3 HSL
        clear hbs
        have HLN : Aside0 (∀ m : Nat, Calls Try.prog 13 #[.pointer (some ⟨b, 0, none⟩)] (w3.drewN m) fun e w' => e = .returned (.int .i64 bs3.length) ∧ w' = w3.drewN m) := ⟨fun m => (Len_any bs3 b b v3 _ (HW3.out.below (pw_below_drewN (Below.refl _ _) m))).mono (fun _ _ ⟨h1, h2⟩ => ⟨h1, h2.symm⟩)⟩
        have c0 : w3.cell? ⟨b + 1, 0, none⟩ = some vx3 := blk_cell HX3.out.1 0
        obtain ⟨A3, cc3, e3⟩ := Kd.R_slice HX3.out.2.1
        rw [ones_length] at e3
        subst e3
        have ee : (er != er) = false := by simp
        have el : ((bs3.length : Int) != (bs3.length : Int)) = false := by simp
        obtain ⟨L, hL⟩ : ∃ L, bs3.length = L := ⟨_, rfl⟩
        have HLL := Aside0.mk hL
        rw [hL] at HLN c0 el
        clear hL
        go_wp2
        go_big_quiet ((go_at_call 13; exact Calls.quiet_of_same (HLN.out _)))
        have HW4 := Aside0.mk (HW3.out.below (pw_below_drewN (Below.refl _ _) nq))
        have HX4 := Aside0.mk (HX3.out.below (pw_below_drewN (Below.refl _ _) nq))
        have HB4 : Aside0 (Below b w (w3.drewN nq)) := ⟨pw_below_drewN HB3.out nq⟩
        clear HW3 HX3 HB3 c0 HLN
        generalize w3.drewN nq = w4 at HW4 HX4 HB4 ⊢
        go_wp2
        go_roundw
        case rel => exact ⟨d + 1, v3, _, bs3, by omega, by omega, by go_num, HW4, HX4, HAP3, ⟨by have := HS.out; have := HSL.out; omega⟩, HB4⟩
        case measure => simp [intOf]; omega
    · have hend : (d = n) ∨ (d < n ∧ ¬ (d : Int) < 100) := by omega
      obtain ⟨A3, cc3, e3⟩ := Kd.R_slice HX.out.2.1
      rw [ones_length] at e3
      subst e3
      obtain ⟨L, hL⟩ : ∃ L, bs.length = L := ⟨_, rfl⟩
      have HLL := Aside0.mk hL
      have el : ((L : Int) == (L : Int)) = true := by simp
      have HBW : Aside0 (∀ W, Below wr.heap.size wr W → Calls Try.prog 29 #[.pointer (some ⟨b, 0, none⟩)] W fun e w' => e = .returned (.string (strOfNums (pack bs))) ∧ W = w') := ⟨fun W hW => Bytes_any bs b b v W (HW.out.below hW)⟩
      have HBX : Aside0 (∀ W, Below wr.heap.size wr W → Calls Try.prog 30 #[.pointer (some ⟨b + 1, 0, none⟩)] W fun e w' => e = .returned (.string (strOfNums (pack bs))) ∧ Below W.heap.size W w') := ⟨fun W hW => XBytes_any bs b (b + 1) _ W (HX.out.below hW) (by have := HS.out; omega)⟩
      have HBL : Aside0 (∀ W, Below wr.heap.size wr W → Calls Try.prog 13 #[.pointer (some ⟨b, 0, none⟩)] W fun e w' => e = .returned (.int .i64 L) ∧ W = w') := ⟨fun W hW => by
        have := Len_any bs b b v W (HW.out.below hW)
        rw [hL] at this
        exact this⟩
      have HSK : Aside0 (∀ W, Below wr.heap.size wr W → W.cell? ⟨b + 1, 0, none⟩ = some (.slice A3 L cc3)) := ⟨fun W hW => by rw [← hL]; exact blk_cell (HX.out.below hW).1 0⟩
      rw [hL] at HX
      generalize strOfNums (pack bs) = tx at HBW HBX
      have hbw : Below wr.heap.size wr wr.drew := below_drew (Below.refl _ _)
      clear hL
      rcases hend with rfl | ⟨h1, h2⟩
      all_goals
        go_wp2
        go_region_held3 (fun W => W.cell? ⟨b + 1, 0, none⟩ = some (.slice A3 L cc3)) (first | exact HSK.out _ hbw)
          ((first | (go_at_call 29; (with_reducible refine (HBW.out _ hbw).mono ?_); rintro e w4 ⟨rfl, rfl⟩) | (go_at_call 30; (with_reducible refine (HBX.out _ hbw).mono ?_); rintro e w4 ⟨rfl, hn4⟩; have hbw2 := hbw.trans (hn4.mono hbw.size); clear hbw hn4; have hbw := hbw2; clear hbw2) | (go_at_call 13; (with_reducible refine (HBL.out _ hbw).mono ?_); rintro e w4 ⟨rfl, rfl⟩) | (go_at_call 10; (with_reducible refine (awake_any _).mono ?_); rintro e w4 ⟨rfl, hn4⟩; have hbw2 := hbw.trans (hn4.mono hbw.size); clear hbw hn4; have hbw := hbw2; clear hbw2)))
        all_goals
          have HB4 := Aside0.mk (HB.out.trans (hbw.mono (by have := HX.out.lt; omega)))
          clear hbw
          go_wp2
          go_ret
          exact ⟨rfl, by rw [HBB.out]; exact HB4.out⟩
end Go.Proofs.Ytlgkaegcocfhdaa.Hand
