/- Contracts of layer 1, proved by hand: light. -/
import Derived.Test.YtlgkaegcocfhdaaHandMa
import Derived.Test.YtlgkaegcocfhdaaHandMb
import Derived.Test.YtlgkaegcocfhdaaHandMc
import Derived.Test.YtlgkaegcocfhdaaHandMd
import Derived.Test.YtlgkaegcocfhdaaHandMe
import Derived.Test.YtlgkaegcocfhdaaHandMf
import Derived.Test.YtlgkaegcocfhdaaHandMg
import Derived.Test.YtlgkaegcocfhdaaHandMh
import Derived.Test.YtlgkaegcocfhdaaHandMi
namespace Go.Proofs.Ytlgkaegcocfhdaa.Hand
open Go.RowKit Go.Proofs.Ytlgkaegcocfhdaa.Q Go.Proofs.YtlgkaegcocfhdaaW.PrintWords Go.Proofs.YtlgkaegcocfhdaaW.PrintLast Go.Proofs.YtlgkaegcocfhdaaW.PrintMore
set_option linter.unusedVariables false
set_option linter.unusedSimpArgs false

theorem light_any (k wd n u : Int) (h0 : -9223372036854775808 ≤ n) (h1 : n ≤ 9223372036854775807) (w : World) :
    Calls Try.prog 9 #[.agg #[.int .i64 k, .int .i64 wd, .int .i64 n, .int .u64 u]] w fun e w' => e = .returned (.bool (decide (lightP k wd n))) ∧ Below w.heap.size w w' := by
  by_cases hk2 : k = 2
  · subst hk2
    by_cases ha : n < 4000
    · rw [decide_eq_true (show lightP 2 wd n from .inr (.inl ⟨rfl, .inl ha⟩))]
      exact light_a wd n u (decide_eq_true ha) w
    · by_cases hb : 16777216 < n
      · rw [decide_eq_true (show lightP 2 wd n from .inr (.inl ⟨rfl, .inr hb⟩))]
        exact light_b wd n u (decide_eq_false ha) (decide_eq_true hb) w
      · rw [decide_eq_false (show ¬ lightP 2 wd n by unfold lightP; omega)]
        exact light_c wd n u (decide_eq_false ha) (decide_eq_false hb) w
  · by_cases hk3 : k = 3
    · subst hk3
      by_cases ha : wd < 0
      · rw [decide_eq_true (show lightP 3 wd n from .inr (.inr ⟨rfl, .inl ha⟩))]
        exact light_d wd n u (decide_eq_true ha) w
      · by_cases hb : 30 < wd
        · rw [decide_eq_true (show lightP 3 wd n from .inr (.inr ⟨rfl, .inr (.inl hb)⟩))]
          exact light_e wd n u (decide_eq_false ha) (decide_eq_true hb) w
        · obtain ⟨K, rfl⟩ : ∃ K : Nat, wd = (K : Int) := ⟨wd.toNat, by omega⟩
          have hd : (foldN n : Int) / 2 ^ K = ((foldN n / 2 ^ K : Nat) : Int) := by simp
          have HDQ : lightP 3 K n ↔ foldN n / 2 ^ K < 4000 ∨ 16777216 < foldN n / 2 ^ K := by
            unfold lightP
            rw [Int.toNat_natCast]
            generalize foldN n / 2 ^ K = q
            omega
          have HF : Aside0 (∀ W, Calls Try.prog 12 #[.int .i64 n] W fun e w' => e = .returned (.int .u64 (foldN n)) ∧ ∃ m, w' = W.drewN m) := ⟨fun W => (Fold_any n h0 h1 W).mono fun _ _ ⟨h1, ⟨m, h2⟩⟩ => ⟨h1, ⟨m, h2⟩⟩⟩
          generalize foldN n / 2 ^ K = q at hd HDQ
          have hK : (K : Int) ≤ 30 := by omega
          by_cases hc : q < 4000
          · rw [decide_eq_true (HDQ.2 (.inl hc))]
            exact light_f K n u q _ HF hd hK (decide_eq_true (by omega)) w
          · by_cases he : 16777216 < q
            · rw [decide_eq_true (HDQ.2 (.inr he))]
              exact light_g K n u q _ HF hd hK (decide_eq_false (by omega)) (decide_eq_true (by omega)) w
            · rw [decide_eq_false (fun h => (HDQ.1 h).elim hc he)]
              exact light_h K n u q _ HF hd hK (decide_eq_false (by omega)) (decide_eq_false (by omega)) w
    · rw [decide_eq_true (show lightP k wd n from .inl ⟨hk2, hk3⟩)]
      exact light_i k wd n u (by simpa using hk2) (by simpa using hk3) w
end Go.Proofs.Ytlgkaegcocfhdaa.Hand
