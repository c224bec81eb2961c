/- Contracts of layer 1, proved by hand: a reader's Get. -/
import Derived.Test.YtlgkaegcocfhdaaHandG
namespace Go.Proofs.Ytlgkaegcocfhdaa.Hand
open Go.RowKit Go.Proofs.YtlgkaegcocfhdaaW.PrintWords Go.Proofs.YtlgkaegcocfhdaaW.PrintLast Go.Proofs.YtlgkaegcocfhdaaW.PrintMore
set_option linter.unusedVariables false
set_option linter.unusedSimpArgs false

set_option maxHeartbeats 1000000 in
theorem Get_nil (k : Int) (w : World) : Calls Try.prog 15 #[.pointer none, .int .i64 k] w fun e w' => e = .returned (.tuple #[.int .u64 0, .int .i64 1]) ∧ Drawn0 w w' := by
  have hup := Try.underlying36
  go_enter Try.func15, Try.ntmps15
  go_wp2
  go_ret2
  exact ⟨rfl, Drawn0.refl _⟩
set_option maxHeartbeats 2000000 in
set_option maxRecDepth 100000 in
theorem Get_any (s : ByteArray) (hs : s.size ≤ 281474976710656) (p : Nat) (hp : p ≤ 8 * s.size) (k : Int) (B g : Nat) (hB : B ≤ g) (w : World) (h : RAt w g s p) :
    Calls Try.prog 15 #[.pointer (some ⟨g, 0, none⟩), .int .i64 k] w fun e w' => e = .returned (.tuple #[.int .u64 (getR s p k).1, .int .i64 (getR s p k).2.1]) ∧ RAt w' g s (getR s p k).2.2 ∧ Turned B g w w' := by
  have hup := Try.underlying36
  have HR := Aside0.mk h
  clear h
  by_cases h1 : k < 0
  · have he : getR s p k = (0, 11, p) := if_pos (.inl h1)
    rw [he]
    clear he
    go_enter Try.func15, Try.ntmps15
    go_wp2
    go_ret2
    exact ⟨rfl, HR.out, Turned.refl _ _ _⟩
  · by_cases h2 : 64 < k
    · have he : getR s p k = (0, 11, p) := if_pos (.inr h2)
      rw [he]
      clear he
      go_enter Try.func15, Try.ntmps15
      go_wp2
      go_ret2
      exact ⟨rfl, HR.out, Turned.refl _ _ _⟩
    · obtain ⟨K, rfl⟩ : ∃ K : Nat, k = (K : Int) := ⟨k.toNat, by omega⟩
      have HL := Aside0.mk (Left_any s hs p g hp w HR.out)
      obtain ⟨L, hL⟩ : ∃ L : Int, ((8 * s.size - p : Nat) : Int) = L := ⟨_, rfl⟩
      rw [hL] at HL
      by_cases h3 : L < (K : Int)
      · have he : getR s p K = (0, 10, p) := by unfold getR; rw [if_neg (by omega), if_pos (by rw [hL]; exact h3)]
        rw [he]
        clear he hL
        go_enter Try.func15, Try.ntmps15
        go_wp2_with fail
        refine HL.out.mono ?_
        rintro e w1 ⟨rfl, hd⟩
        have HD := Aside0.mk hd
        clear hd
        go_wp2
        go_ret2
        exact ⟨rfl, HR.out.drawn HD.out, (Turned.refl B g w).drawn HD.out⟩
      · have he : getR s p K = (numAt s p K, 0, p + K) := by unfold getR; rw [if_neg (by omega), if_neg (by rw [hL]; exact h3)]; rfl
        rw [he]
        have HSZ := Aside0.mk (show p + K ≤ 8 * s.size by omega)
        have hp1 : p ≤ 2251799813685248 := by omega
        have hK1 : K ≤ 64 := by omega
        have HLL := Aside0.mk hL
        clear he hL h1 h2
        go_enter Try.func15, Try.ntmps15
        go_wp2_with fail
        refine HL.out.mono ?_
        rintro e w1 ⟨rfl, hd⟩
        have HR1 := Aside0.mk (HR.out.drawn hd)
        have HT1 := Aside0.mk ((Turned.refl B g w).drawn hd)
        clear hd
        go_wp2
        go_loopg [6, 24] K (fun gk n i wr => ∃ d : Nat, d + gk = K ∧ i = .int .i64 d ∧ n = .int .u64 (numAt s p d) ∧ Aside0 (RAt wr g s p) ∧ Aside0 (Turned B g w wr))
        case atStart => exact ⟨0, by omega, rfl, rfl, HR1, HT1⟩
        case round =>
          obtain ⟨d, hdk, rfl, rfl, HR2, HT2⟩ := hrel
          have c0 := HR2.out.place
          cases gk with
          | zero =>
            obtain rfl : d = K := by omega
            have f0 := blk_frozen HR2.out 0
            go_wp2_with fail
            refine (on_any g p d wr c0 f0 (by omega) (by omega) (by omega) (by omega)).mono ?_
            rintro e w2 ⟨rfl, rfl⟩
            go_wp2
            go_ret2
            refine ⟨rfl, ?_, HT2.out.set hB 0 _⟩
            exact_mod_cast HR2.out.to (q := p + d)
          | succ gk =>
            have i1 : (d : Int) < (K : Int) := by omega
            have hlt : numAt s p d < 9223372036854775808 := Nat.lt_of_lt_of_le (numAt_lt s p d) (by
              have : d ≤ 63 := by omega
              exact Nat.pow_le_pow_right (by decide) this)
            have hor := or_bit (numAt s p d) (tb s (p + d)) (by omega)
            have hnx := numAt_succ s p d
            rw [← hnx] at hor
            have HPK := Aside0.mk (fun W hW => peek_any s p (p + d) g (by have := HSZ.out; omega) hs W hW)
            generalize tb s (p + d) = one at hor HPK hnx
            clear hnx
            obtain ⟨n2, hn2⟩ : ∃ n2, numAt s p (d + 1) = n2 := ⟨_, rfl⟩
            rw [hn2] at hor
            have HN2 := Aside0.mk hn2
            clear hn2
            generalize numAt s p d = n1 at hlt hor
            obtain ⟨q, hq⟩ : ∃ q, p + d = q := ⟨_, rfl⟩
            rw [hq] at HPK
            have eq1 : (p : Int) + (d : Int) = (q : Int) := by omega
            have hq2 : q ≤ 4503599627370496 := by omega
            clear hq
            go_wp2_with fail
            refine (at_any g _ _ c0).mono ?_
            rintro e w2 ⟨rfl, rfl⟩
            go_wp2_with fail
            refine (HPK.out _ HR2.out).mono ?_
            rintro e w3 ⟨rfl, hd⟩
            have HR3 := Aside0.mk (HR2.out.drawn hd)
            have HT3 := Aside0.mk (HT2.out.drawn hd)
            clear hd
            go_wp2
            go_roundg gk
            case measure => omega
            case rel => exact ⟨d + 1, by omega, by go_num, by rw [HN2.out], HR3, HT3⟩
end Go.Proofs.Ytlgkaegcocfhdaa.Hand
