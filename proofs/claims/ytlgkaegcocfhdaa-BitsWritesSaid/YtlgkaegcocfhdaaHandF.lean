/- Contracts of layer 1, proved by hand: a writer's Rice. -/
import Derived.Test.YtlgkaegcocfhdaaHandE
namespace Go.Proofs.Ytlgkaegcocfhdaa.Hand
open Go.RowKit Go.Proofs.Ytlgkaegcocfhdaa.Q Go.Proofs.YtlgkaegcocfhdaaW.PrintWords Go.Proofs.YtlgkaegcocfhdaaW.PrintLast Go.Proofs.YtlgkaegcocfhdaaW.PrintMore
set_option linter.unusedVariables false
set_option linter.unusedSimpArgs false

def riceP (n k : Int) : Prop := 0 ≤ k ∧ k ≤ 30 ∧ foldN n / 2 ^ k.toNat ≤ 16777216
instance (n k : Int) : Decidable (riceP n k) := by unfold riceP; infer_instance
/-- A Rice code. -/
def riceB (n : Int) (K : Nat) : List Bool := List.replicate (foldN n / 2 ^ K) false ++ true :: nbits (foldN n) K
set_option maxHeartbeats 4000000 in
set_option maxRecDepth 100000 in
theorem Rice_nil (n k : Int) (w : World) : Calls Try.prog 11 #[.pointer none, .int .i64 n, .int .i64 k] w fun e w' => e = .returned (.int .i64 1) ∧ Drawn0 w w' := by
  have hup := Try.underlying22
  go_enter Try.func11, Try.ntmps11
  go_wp2
  go_ret
  exact ⟨rfl, Drawn0.refl _⟩
set_option maxHeartbeats 4000000 in
set_option maxRecDepth 100000 in
theorem Rice_no (n k : Int) (h0 : -9223372036854775808 ≤ n) (h1 : n ≤ 9223372036854775807) (h : ¬ riceP n k) (g : Nat) (w : World) :
    Calls Try.prog 11 #[.pointer (some ⟨g, 0, none⟩), .int .i64 n, .int .i64 k] w fun e w' => e = .returned (.int .i64 11) ∧ Drawn0 w w' := by
  have hup := Try.underlying22
  by_cases k0 : k < 0
  · clear h
    go_enter Try.func11, Try.ntmps11
    go_wp2
    go_ret
    exact ⟨rfl, Drawn0.refl _⟩
  · by_cases k1 : 30 < k
    · clear h
      go_enter Try.func11, Try.ntmps11
      go_wp2
      go_ret
      exact ⟨rfl, Drawn0.refl _⟩
    · obtain ⟨K, rfl⟩ : ∃ K : Nat, k = (K : Int) := ⟨k.toNat, by omega⟩
      have hq : 16777216 < foldN n / 2 ^ K := by
        rcases Nat.lt_or_ge 16777216 (foldN n / 2 ^ K) with q | q
        · exact q
        · exact absurd ⟨by omega, by omega, by simpa using q⟩ h
      have hd : (foldN n : Int) / 2 ^ K = ((foldN n / 2 ^ K : Nat) : Int) := by simp
      have HF := Aside0.mk (fold_any n h0 h1)
      have k2 : (0 : Int) ≤ (K : Int) := by omega
      have k3 : (K : Int) ≤ 30 := by omega
      have k4 : (K : Int) < 64 := by omega
      obtain ⟨u, hu⟩ : ∃ u, foldN n = u := ⟨_, rfl⟩
      rw [hu] at hq hd HF
      obtain ⟨q, hqq⟩ : ∃ q, u / 2 ^ K = q := ⟨_, rfl⟩
      rw [hqq] at hq hd
      have hq' : (16777216 : Int) < (q : Int) := by omega
      clear h hu hqq k0 k1
      go_enter Try.func11, Try.ntmps11
      go_wp2_with fail
      refine (HF.out _).mono ?_
      rintro e w1 ⟨rfl, hdr⟩
      have HD := Aside0.mk hdr
      clear hdr
      go_wp2
      go_ret
      exact ⟨rfl, HD.out⟩
set_option maxHeartbeats 4000000 in
set_option maxRecDepth 100000 in
theorem Rice_yes (n : Int) (K : Nat) (h0 : -9223372036854775808 ≤ n) (h1 : n ≤ 9223372036854775807) (h : riceP n K) (bs : List Bool) (B g : Nat) (v : Value) (w : World) (hE : WAt w B g v bs) (hl : bs.length + 16777400 < 1125899906842624) :
    Calls Try.prog 11 #[.pointer (some ⟨g, 0, none⟩), .int .i64 n, .int .i64 K] w fun e w' => e = .returned (.int .i64 0) ∧ ∃ v', WAt w' B g v' (bs ++ riceB n K) ∧ Moved B g w v w' v' := by
  have hup := Try.underlying22
  have hq : foldN n / 2 ^ K ≤ 16777216 := by simpa using h.2.2
  have hd : (foldN n : Int) / 2 ^ K = ((foldN n / 2 ^ K : Nat) : Int) := by simp
  have HF := Aside0.mk (fold_any n h0 h1)
  have hlt := foldN_lt n h0 h1
  have k2 : (0 : Int) ≤ (K : Int) := by omega
  have k3 : (K : Int) ≤ 30 := h.2.1
  have k4 : (K : Int) < 64 := by omega
  have HE := Aside0.mk hE
  have HRB : Aside0 (riceB n K = List.replicate (foldN n / 2 ^ K) false ++ true :: nbits (foldN n) K) := ⟨rfl⟩
  obtain ⟨u, hu⟩ : ∃ u, foldN n = u := ⟨_, rfl⟩
  rw [hu] at hq hd HF hlt HRB
  obtain ⟨q, hqq⟩ : ∃ q, u / 2 ^ K = q := ⟨_, rfl⟩
  rw [hqq] at hq hd HRB
  have hq' : (q : Int) ≤ 16777216 := by omega
  clear h hu hqq hE
  go_enter Try.func11, Try.ntmps11
  go_wp2_with fail
  refine (HF.out _).mono ?_
  rintro e w1 ⟨rfl, ⟨m1, rfl⟩⟩
  go_wp2_with fail
  refine (HF.out _).mono ?_
  rintro e w1 ⟨rfl, ⟨m2, rfl⟩⟩
  have HE1 : Aside0 (WAt ((w.drewN m1).drewN m2) B g v bs) := ⟨(HE.out.below (pw_below_drewN (Below.refl _ _) m1)).below (pw_below_drewN (Below.refl _ _) m2)⟩
  have HM1 : Aside0 (Moved B g w v ((w.drewN m1).drewN m2) v) := ⟨((Moved.refl B g w v).drewN m1).drewN m2⟩
  generalize (w.drewN m1).drewN m2 = wy at HE1 HM1 ⊢
  go_wp2_with fail
  refine (unary_any q bs (by omega) B g v wy HE1.out (by omega)).mono ?_
  rintro e w3 ⟨rfl, v3, hE, hM⟩
  have HE3 := Aside0.mk hE
  have HM3 := Aside0.mk (HM1.out.trans hM)
  clear hE hM
  go_wp2_with fail
  refine (lay_any u K _ hlt (by omega) B g v3 w3 HE3.out (by rw [List.length_append, noughts_length]; simp; omega)).mono ?_
  rintro e w4 ⟨rfl, v4, hE, hM⟩
  have HE4 := Aside0.mk hE
  have HM4 := Aside0.mk (HM3.out.trans hM)
  clear hE hM
  go_wp2
  go_ret
  refine ⟨rfl, v4, ?_, HM4.out⟩
  rw [HRB.out]
  have := HE4.out
  unfold noughts at this
  simpa using this
end Go.Proofs.Ytlgkaegcocfhdaa.Hand
