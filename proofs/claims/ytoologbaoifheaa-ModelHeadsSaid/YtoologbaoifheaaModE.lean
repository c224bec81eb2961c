/- Contracts of layer 19, proved by hand: a number is taken. -/
import Derived.Test.YtoologbaoifheaaMathE
namespace Go.Proofs.Ytoologbaoifheaa.Hand
open Go.RowKit Go.Proofs.Ytoologbaoifheaa.Q Go.Proofs.Ytoologbaoifheaa.Math Go.Proofs.YtoologbaoifheaaW.PrintWords Go.Proofs.YtoologbaoifheaaW.PrintLast Go.Proofs.YtoologbaoifheaaW.PrintMore
set_option linter.unusedVariables false
set_option linter.unusedSimpArgs false
attribute [local go_sem] max2_int min2_int max_two min_two

theorem findC_lt (c : List Int) : ∀ (k x : Nat) (a : Int), x ≤ 41 → findC c k x a ≤ 41
  | 0, x, _, h => h
  | k + 1, x, a, h => by
    unfold findC
    split
    · rename_i h2
      exact findC_lt c k (x + 1) _ (by omega)
    · exact h
theorem bits_in (k : Nat) (d : Dec) (h : GoodD d) : 0 ≤ (bitsD (k : Int) d).1 ∧ (bitsD (k : Int) d).1 < 2 ^ k := by
  have hp : (1 : Int) ≤ 2 ^ k := by
    have : (0 : Int) < 2 ^ k := Int.pow_pos (by decide)
    omega
  unfold bitsD
  rw [Int.toNat_natCast]
  have h1 := peek_in d (2 ^ k) h hp
  split
  · exact ⟨by simp, by simp; omega⟩
  · split
    · exact ⟨by simp, by simp; omega⟩
    · split
      · exact ⟨h1.1, by have := h1.2; show (peekD d (2 ^ k)).1 < 2 ^ k; omega⟩
      · exact ⟨by simp, by simp; omega⟩
theorem normD_s : ∀ (k : Nat) (d : Dec), (normD k d).2.s = d.s
  | 0, d => rfl
  | k + 1, d => by
    unfold normD
    split
    · split
      · rfl
      · rw [normD_s k]; rfl
    · rfl
theorem takeD_s (f n t : Int) (d : Dec) : (takeD f n t d).2.s = d.s := by
  unfold takeD
  split
  · split
    · rfl
    · split
      · rfl
      · rw [normD_s]; rfl
  · rfl
theorem bitsD_s (k : Int) (d : Dec) : (bitsD k d).2.2.s = d.s := by
  unfold bitsD
  split
  · rfl
  · split
    · rfl
    · split
      · exact takeD_s _ _ _ _
      · exact takeD_s _ _ _ _
/-- Two blocks may have been turned, no other. -/
def Two (B g gc : Nat) (w w' : World) : Prop := Below B w w' ∧ Kept w w' (fun k => k = g ∨ k = gc)
theorem Two.refl (B g gc : Nat) (w : World) : Two B g gc w w := ⟨Below.refl _ _, Kept.refl _ _⟩
theorem Two.drawn {B g gc : Nat} {w w1 w2 : World} (h : Two B g gc w w1) (d : Drawn0 w1 w2) : Two B g gc w w2 := by
  obtain ⟨m, rfl⟩ := d
  exact ⟨pw_below_drewN h.1 m, h.2.drewN m⟩
theorem Two.dec {B g gc : Nat} {w w1 w2 : World} (h : Two B g gc w w1) (k : Turned B g w1 w2) : Two B g gc w w2 := ⟨h.1.trans k.below, h.2.then_ k.kept (fun _ h => .inl (.inl h))⟩
theorem Two.cnt {B g gc : Nat} {w w1 w2 : World} (h : Two B g gc w w1) (k : Turned B gc w1 w2) : Two B g gc w w2 := ⟨h.1.trans k.below, h.2.then_ k.kept (fun _ h => .inl (.inr h))⟩
set_option maxHeartbeats 8000000 in
set_option maxRecDepth 100000 in
theorem number_any (r : Rt) (hg : GoodD r.d) (hc : CountsOk r.c r.s) (hsz : r.d.s.size ≤ 9223372036854775807) (B g gc : Nat) (hB : B ≤ g) (hB2 : B ≤ gc) (w : World) (hd : DecAt w g r.d) (hk : CntAt w gc r.c r.s) (hBw : B ≤ w.heap.size) :
    Calls Try.prog 37 #[.pointer (some ⟨g, 0, none⟩), .pointer (some ⟨gc, 0, none⟩)] w fun e w' => Two B g gc w w' ∧ ((numD r = none ∧ e = .returned (.tuple #[.int .i64 0, .bool false])) ∨ (∃ x r', numD r = some (x, r') ∧ e = .returned (.tuple #[.int .i64 x, .bool true]) ∧ DecAt w' g r'.d ∧ CntAt w' gc r'.c r'.s)) := by
  have HG := Aside0.mk hg
  have HC := Aside0.mk hc
  have HD := Aside0.mk hd
  have HK := Aside0.mk hk
  have HNU : Aside0 (numD r = if (peekD r.d r.s).2 = 0 then
    if (takeD (belowC r.c (classD r)) (r.c.getD (classD r) 0) r.s r.d).1 = 0 then
      (lowD 42 (classD r - 1) (if classD r = 0 then 0 else 1) (takeD (belowC r.c (classD r)) (r.c.getD (classD r) 0) r.s r.d).2).map fun x => (unfoldM (x.1 : Int), ⟨x.2, (sawC r.c r.s (classD r)).1, (sawC r.c r.s (classD r)).2⟩)
    else none
  else none) := ⟨rfl⟩
  have cT : w.cell? ⟨gc, 42, none⟩ = some (.int .i64 r.s) := hk.total
  have hs := hc.at 0 (by decide)
  have htop := hc.top
  have hpk := peek_in r.d r.s hg (by omega)
  have hcl : classD r < 42 := by
    have := findC_lt r.c 42 0 (peekD r.d r.s).1 (by decide)
    unfold classD
    omega
  have HCL : Aside0 (classD r = findC r.c 42 0 (peekD r.d r.s).1) := ⟨rfl⟩
  clear hg hc hd hk hs
  go_enter Try.func37, Try.ntmps37
  go_wp2_with fail
  with_reducible refine (Peek_any r.d r.s g w HD.out HG.out).mono ?_
  rintro e w1 ⟨rfl, hd1⟩
  have HD1 := Aside0.mk (HD.out.below hd1.below)
  have HK1 := Aside0.mk (HK.out.below hd1.below)
  have HB1 : Aside0 (Two B g gc w w1) := ⟨(Two.refl B g gc w).drawn hd1⟩
  clear hd1 HD HK cT
  by_cases hp0 : (peekD r.d r.s).2 = 0
  · have hpb : ((peekD r.d r.s).2 != 0) = false := by simp [hp0]
    have HN2 := Aside0.mk (HNU.out.trans (if_pos hp0))
    clear HNU hp0
    have HFD := Aside0.mk (find_any r.c r.s HC.out.small (peekD r.d r.s).1 hpk.1 (by omega) gc w1 HK1.out)
    rw [← HCL.out] at HFD
    generalize classD r = k at hcl HCL HN2 HFD
    generalize (peekD r.d r.s).2 = pe at hpb ⊢
    generalize (peekD r.d r.s).1 = pv at hpk HCL HFD ⊢
    go_wp2_with fail
    with_reducible refine HFD.out.mono ?_
    rintro e w2 ⟨rfl, rfl⟩
    have HSP := Aside0.mk (span_any r.c r.s HC.out.small k hcl gc w1 HK1.out)
    obtain ⟨f0, hf0⟩ : ∃ f0, belowC r.c k = f0 := ⟨_, rfl⟩
    obtain ⟨n0, hn0⟩ : ∃ n0, r.c.getD k 0 = n0 := ⟨_, rfl⟩
    have HN0 := Aside0.mk hn0
    rw [hf0, hn0] at HSP HN2
    clear hf0 hn0
    go_wp2_with fail
    with_reducible refine HSP.out.mono ?_
    rintro e w3 ⟨rfl, hd3⟩
    have HD3 := Aside0.mk (HD1.out.below hd3.below)
    have HK3 := Aside0.mk (HK1.out.below hd3.below)
    have HB3 : Aside0 (Two B g gc w w3) := ⟨HB1.out.drawn hd3⟩
    have cT : w3.cell? ⟨gc, 42, none⟩ = some (.int .i64 r.s) := HK3.out.total
    clear hd3 HD1 HK1 HB1 HFD HSP
    go_wp2_with fail
    with_reducible refine (Take_any r.d f0 n0 r.s HG.out hsz B g hB w3 HD3.out).mono ?_
    rintro e w4 ⟨rfl, hd4, ht4⟩
    have HD4 := Aside0.mk hd4
    have HK4 := Aside0.mk (HK3.out.taken HD3.out ht4)
    have HB4 := Aside0.mk (HB3.out.dec ht4)
    have HG4 := Aside0.mk (takeD_good r.d f0 n0 r.s HG.out)
    clear hd4 ht4 HD3 HK3 HB3 cT
    by_cases ht0 : (takeD f0 n0 r.s r.d).1 = 0
    · have htb : ((takeD f0 n0 r.s r.d).1 != 0) = false := by simp [ht0]
      have HN3 := Aside0.mk (HN2.out.trans (if_pos ht0))
      clear HN2 ht0
      generalize (takeD f0 n0 r.s r.d).1 = te at htb ⊢
      have HSZ : Aside0 ((takeD f0 n0 r.s r.d).2.s.size ≤ 9223372036854775807) := ⟨by rw [takeD_s]; exact hsz⟩
      generalize (takeD f0 n0 r.s r.d).2 = d0 at HD4 HG4 HN3 HSZ
      obtain ⟨u0, hu0⟩ : ∃ u0 : Nat, (if k = 0 then 0 else 1) = u0 := ⟨_, rfl⟩
      have hmin : (if (1 : Int) < (k : Int) then 1 else (k : Int)) = (u0 : Int) := by rw [← hu0]; split <;> split <;> omega
      rw [hu0] at HN3
      obtain ⟨X, hX⟩ : ∃ X, lowD 42 (k - 1) u0 d0 = X := ⟨_, rfl⟩
      rw [hX] at HN3
      have HX := Aside0.mk hX
      have HU0 := Aside0.mk hu0
      have k0 : (0 : Int) ≤ (k : Int) := by omega
      have ekl : IntKind.i64.wrap ((k : Int) - 1) = (k : Int) - 1 := by rw [IntKind.wrap_i64]; omega
      clear hX hu0
      go_wp2
      go_loopg [11, 12] 42 (fun f uv lv wr => ∃ (z : Int) (u : Nat) (d : Dec), uv = .int .i64 u ∧ lv = .int .i64 z ∧ -1 ≤ z ∧ z < k ∧ z ≤ 41 ∧ z.toNat ≤ f ∧ u < 2 ^ (k - z.toNat) ∧ Aside0 (DecAt wr g d) ∧ Aside0 (GoodD d) ∧ Aside0 (d.s.size ≤ 9223372036854775807) ∧ Aside0 (CntAt wr gc r.c r.s) ∧ Aside0 (Two B g gc w wr) ∧ Aside0 (lowD f z.toNat u d = X))
      case atStart =>
        refine ⟨(k : Int) - 1, u0, d0, rfl, rfl, by omega, by omega, by omega, by omega, ?_, HD4, HG4, HSZ, HK4, HB4, ⟨by rw [show ((k : Int) - 1).toNat = k - 1 by omega]; exact HX.out⟩⟩
        have := HU0.out
        rcases Nat.eq_zero_or_pos k with h | h
        · subst h
          rw [if_pos rfl] at this
          subst this
          decide
        · rw [if_neg (by omega)] at this
          rw [show k - ((k : Int) - 1).toNat = 1 by omega, ← this]
          decide
      case round =>
        clear HD4 HG4 HK4 HB4 HX HSZ
        obtain ⟨z, u, d, rfl, rfl, z0, zk, z1, hzf, hub, HD, HGD, HSZ, HKD, HBW, HL⟩ := hrel
        by_cases hz : z > 0
        · cases gk with
          | zero => exact absurd hzf (by omega)
          | succ f =>
            obtain ⟨left, rfl⟩ : ∃ left : Nat, z = (left : Int) := ⟨z.toNat, by omega⟩
            rw [Int.toNat_natCast] at HL hzf hub
            have hl0 : 0 < left := by omega
            have hll : lowD (f + 1) left u d = if (bitsD ((left - 1) % 16 + 1 : Nat) d).2.1 = 0 then lowD f (left - ((left - 1) % 16 + 1)) (u * 2 ^ ((left - 1) % 16 + 1) + (bitsD ((left - 1) % 16 + 1 : Nat) d).1.toNat) (bitsD ((left - 1) % 16 + 1 : Nat) d).2.2 else none := by
              show (if left = 0 then some (u, d) else _) = _
              rw [if_neg (by omega)]
            obtain ⟨V, hV⟩ : ∃ V, (left - 1) % 16 = V := ⟨_, rfl⟩
            obtain ⟨W, hW⟩ : ∃ W, V + 1 = W := ⟨_, rfl⟩
            obtain ⟨R, hR⟩ : ∃ R, left - W = R := ⟨_, rfl⟩
            rw [hV, hW, hR] at hll
            have w1 : 1 ≤ W ∧ W ≤ 16 := by omega
            obtain ⟨w1, w2⟩ := w1
            have e1 : IntKind.i64.wrap ((left : Int) - 1) = (left : Int) - 1 := by rw [IntKind.wrap_i64]; omega
            have e2 : ((left : Int) - 1).tmod 16 = (V : Int) := by rw [Int.tmod_eq_emod_of_nonneg (by omega)]; omega
            have e3 : IntKind.i64.wrap ((V : Int) + 1) = (W : Int) := by rw [IntKind.wrap_i64]; omega
            have e4 : IntKind.i64.wrap ((left : Int) - (W : Int)) = (R : Int) := by rw [IntKind.wrap_i64]; omega
            have HBC := Aside0.mk (BitsD_any d (W : Int) HGD.out HSZ.out B g hB wr HD.out)
            have HG2 := Aside0.mk (bitsD_good (W : Int) d HGD.out)
            have hbi := bits_in W d HGD.out
            have HLL := Aside0.mk (hll.symm.trans HL.out)
            clear hll HL
            go_wp2_with fail
            with_reducible refine HBC.out.mono ?_
            rintro e w5 ⟨rfl, hd5, ht5⟩
            have HD5 := Aside0.mk hd5
            have HK5 := Aside0.mk (HKD.out.taken HD.out ht5)
            have HB5 := Aside0.mk (HBW.out.dec ht5)
            clear hd5 ht5 HD HKD HBW HBC
            have HSZ5 : Aside0 ((bitsD (W : Int) d).2.2.s.size ≤ 9223372036854775807) := ⟨by rw [bitsD_s]; exact HSZ.out⟩
            by_cases he : (bitsD (W : Int) d).2.1 = 0
            · have heb : ((bitsD (W : Int) d).2.1 != 0) = false := by simp [he]
              have HL2 := Aside0.mk ((if_pos he).symm.trans HLL.out)
              clear HLL he
              obtain ⟨nn, hnn⟩ : ∃ nn : Nat, (bitsD (W : Int) d).1 = (nn : Int) := ⟨(bitsD (W : Int) d).1.toNat, by omega⟩
              rw [hnn] at hbi HL2 ⊢
              rw [Int.toNat_natCast] at HL2
              generalize (bitsD (W : Int) d).2.1 = be at heb ⊢
              generalize (bitsD (W : Int) d).2.2 = d5 at HD5 HG2 HSZ5 HL2
              have hn2 : nn < 2 ^ W := by exact_mod_cast hbi.2
              have hpk2 : 2 ^ (k - left) ≤ 2 ^ 41 := Nat.pow_le_pow_right (by decide) (by omega)
              have eor := or_i64 u nn W (by omega) w2 hn2
              have hpW : 2 ^ W ≤ 2 ^ 16 := Nat.pow_le_pow_right (by decide) w2
              have hmul : u * 2 ^ W ≤ u * 2 ^ 16 := Nat.mul_le_mul_left _ hpW
              have esh : IntKind.i64.wrap ((u : Int) * 2 ^ W) = (u : Int) * 2 ^ W := by
                have e0 : (u : Int) * 2 ^ W = ((u * 2 ^ W : Nat) : Int) := by simp
                rw [e0, IntKind.wrap_i64]
                omega
              have esh2 : wrap64 ((u : Int) * 2 ^ W) = (u : Int) * 2 ^ W := by
                have e0 : (u : Int) * 2 ^ W = ((u * 2 ^ W : Nat) : Int) := by simp
                rw [e0]
                unfold wrap64
                omega
              have v0 : (0 : Int) ≤ (W : Int) := by omega
              have v1 : (W : Int) < 64 := by omega
              have HUB : Aside0 (u * 2 ^ W + nn < 2 ^ (k - R)) := ⟨by
                have e : 2 ^ (k - R) = 2 ^ (k - left) * 2 ^ W := by rw [← Nat.pow_add]; congr 1; omega
                rw [e]
                have : (u + 1) * 2 ^ W ≤ 2 ^ (k - left) * 2 ^ W := Nat.mul_le_mul_right _ hub
                rw [Nat.add_mul] at this
                omega⟩
              have HRW := Aside0.mk hR
              clear hnn hbi hn2 hpk2 hpW hmul hub hV hW hR
              obtain ⟨un, hun⟩ : ∃ un, u * 2 ^ W + nn = un := ⟨_, rfl⟩
              rw [hun] at eor HUB HL2
              clear hun
              go_wp2
              go_roundg f
              case measure => omega
              case rel => exact ⟨(R : Int), un, d5, rfl, rfl, by omega, by have := HRW.out; omega, by have := HRW.out; omega, by have := HRW.out; omega, by rw [Int.toNat_natCast]; exact HUB.out, HD5, HG2, HSZ5, HK5, HB5, ⟨by rw [Int.toNat_natCast]; exact HL2.out⟩⟩
            · have heb : ((bitsD (W : Int) d).2.1 != 0) = true := by simpa using he
              have HL2 := Aside0.mk ((if_neg he).symm.trans HLL.out)
              clear HLL he
              generalize (bitsD (W : Int) d).2.1 = be at heb ⊢
              generalize (bitsD (W : Int) d).1 = bv
              go_wp2
              go_ret2
              exact ⟨HB5.out, .inl ⟨by rw [HN3.out, ← HL2.out]; rfl, rfl⟩⟩
        · have hzn : z.toNat = 0 := by omega
          have hX2 : some (u, d) = X := by
            have := HL.out
            rw [hzn] at this
            rw [← this]
            cases gk <;> simp [lowD]
          have hu41 : u < 2 ^ 41 := Nat.lt_of_lt_of_le hub (Nat.pow_le_pow_right (by decide) (by omega))
          have HN4 : Aside0 (numD r = some (unfoldM (u : Int), ⟨d, (sawC r.c r.s k).1, (sawC r.c r.s k).2⟩)) := ⟨by rw [HN3.out, ← hX2]; rfl⟩
          have HSW := Aside0.mk (saw_any r.c r.s HC.out.small k hcl (by have h1 := HC.out.at k hcl; omega) (by have h1 := HC.out.at k hcl; omega) (by omega) B gc hB2 wr HKD.out)
          have HUF := Aside0.mk (fun W => Unfold_any (u : Int) (by omega) (by omega) W)
          clear hzn hX2 HL HN3 hu41 hub
          go_wp2_with fail
          with_reducible refine HSW.out.mono ?_
          rintro e w8 ⟨rfl, hk8, ht8⟩
          have HK8 := Aside0.mk hk8
          have HD8 := Aside0.mk (HD.out.seen HKD.out ht8)
          have HB8 := Aside0.mk (HBW.out.cnt ht8)
          clear hk8 ht8 HD HKD HBW HSW
          go_wp2_with fail
          with_reducible refine (HUF.out _).mono ?_
          rintro e w9 ⟨rfl, hd9⟩
          have HK9 := Aside0.mk (HK8.out.below hd9.below)
          have HD9 := Aside0.mk (HD8.out.below hd9.below)
          have HB9 : Aside0 (Two B g gc w w9) := ⟨HB8.out.drawn hd9⟩
          clear hd9
          go_wp2
          go_ret2
          exact ⟨HB9.out, .inr ⟨_, _, HN4.out, rfl, HD9.out, HK9.out⟩⟩
    · have htb : ((takeD f0 n0 r.s r.d).1 != 0) = true := by simpa using ht0
      have HN3 := Aside0.mk (HN2.out.trans (if_neg ht0))
      clear HN2 ht0
      generalize (takeD f0 n0 r.s r.d).1 = te at htb ⊢
      go_wp2
      go_ret2
      exact ⟨HB4.out, .inl ⟨HN3.out, rfl⟩⟩
  · have hpb : ((peekD r.d r.s).2 != 0) = true := by simpa using hp0
    have HN2 := Aside0.mk (HNU.out.trans (if_neg hp0))
    clear HNU hp0
    generalize (peekD r.d r.s).2 = pe at hpb ⊢
    go_wp2
    go_ret2
    exact ⟨HB1.out, .inl ⟨HN2.out, rfl⟩⟩
end Go.Proofs.Ytoologbaoifheaa.Hand
