/- Contracts of layer 17, proved by hand: FilterPlays. -/
import Derived.Test.YteljaikpechbmaaHandX
import Derived.Test.YteljaikpechbmaaMathC
namespace Go.Proofs.Yteljaikpechbmaa.Hand
open Go.RowKit Go.Proofs.Yteljaikpechbmaa.Q Go.Proofs.YteljaikpechbmaaW.PrintWords Go.Proofs.YteljaikpechbmaaW.PrintLast Go.Proofs.YteljaikpechbmaaW.PrintMore
set_option linter.unusedVariables false
set_option linter.unusedSimpArgs false

theorem cellOf {w w' : World} (h : Below w.heap.size w w') {a : Addr} {v : Value} (hc : w.cell? a = some v) : w'.cell? a = some v := by
  rw [h.cell (World.block_lt_of_cell? w a hc)]
  exact hc
/-- Both chains. -/
structure PX (w0 : World) (B2 g gx : Nat) (cv : Value) (ls : List Lay) (cx : Value) (W : World) (st sx : List Step) (lx : List XL) : Prop where
  p : ChAt W w0.heap.size g cv ls st
  x : XChAt W B2 gx cx lx sx
  b : Below w0.heap.size w0 W
  lo : ∀ k, Chs g cv ls k → k < B2
  hi : w0.heap.size ≤ B2
theorem XChAt.xc_ge {w : World} {B g : Nat} {v : Value} {ls : List XL} {st : List Step} (h : XChAt w B g v ls st) {k : Nat} (hk : XC g v ls k) : B ≤ k := by
  rcases hk with rfl | hk | hk
  · exact h.base
  · exact Kd.R_base h.row k hk
  · exact (h.own_lt hk).1
theorem plays_pfwd {w0 : World} {B2 g gx : Nat} {cv cx : Value} {ls : List Lay} (x y : Int) (hy : wrap32 x = y) (x0 : -9223372036854775808 ≤ x) (x1 : x ≤ 9223372036854775807) (W : World) (st sx : List Step) (lx : List XL) (h : PX w0 B2 g gx cv ls cx W st sx lx) :
    Calls Try.prog 10 #[.pointer (some ⟨g, 0, none⟩), .int .i64 x] W fun e w' => e = .returned (.int .i64 (fwd st y).2) ∧ PX w0 B2 g gx cv ls cx w' (fwd st y).1 sx lx := by
  subst hy
  refine (Forward_any _ _ _ _ _ _ _ h.p x0 x1).mono ?_
  rintro e w' ⟨rfl, hC, hM⟩
  refine ⟨rfl, hC, h.x.kept hM.kept (fun b hb hx => ?_), h.b.trans hM.below, h.lo, h.hi⟩
  have h1 := h.lo b (.inr (.inr hx))
  have h2 := h.x.xc_ge hb
  omega
theorem plays_xfwd {w0 : World} {B2 g gx : Nat} {cv cx : Value} {ls : List Lay} (x y : Int) (hy : wrap32 x = y) (x0 : -9223372036854775808 ≤ x) (x1 : x ≤ 9223372036854775807) (W : World) (st sx : List Step) (lx : List XL) (h : PX w0 B2 g gx cv ls cx W st sx lx) :
    Calls Try.prog 14 #[.pointer (some ⟨gx, 0, none⟩), .int .i64 x] W fun e w' => e = .returned (.int .i64 (fwd sx y).2) ∧ ∃ lx', PX w0 B2 g gx cv ls cx w' st (fwd sx y).1 lx' := by
  subst hy
  refine (xForward_any _ _ _ _ _ _ _ h.x x0 x1).mono ?_
  rintro e w' ⟨rfl, lx', hC, hM⟩
  have hk : Kept W w' (fun k => B2 ≤ k) := ⟨hM.saw.below.size, fun i hi hn => hM.saw.below.block i (by omega)⟩
  refine ⟨rfl, lx', h.p.kept hk (fun b hb hx => ?_), hC, h.b.trans (hM.saw.below.mono h.hi), h.lo, h.hi⟩
  have h1 := h.lo b hb
  omega
theorem plays_pinv {w0 : World} {B2 g gx : Nat} {cv cx : Value} {ls : List Lay} (x y : Int) (hy : wrap32 x = y) (x0 : -9223372036854775808 ≤ x) (x1 : x ≤ 9223372036854775807) (W : World) (st sx : List Step) (lx : List XL) (h : PX w0 B2 g gx cv ls cx W st sx lx) :
    Calls Try.prog 11 #[.pointer (some ⟨g, 0, none⟩), .int .i64 x] W fun e w' => e = .returned (.int .i64 (inv st y).2) ∧ PX w0 B2 g gx cv ls cx w' (inv st y).1 sx lx := by
  subst hy
  refine (Inverse_any _ _ _ _ _ _ _ h.p x0 x1).mono ?_
  rintro e w' ⟨rfl, hC, hM⟩
  refine ⟨rfl, hC, h.x.kept hM.kept (fun b hb hx => ?_), h.b.trans hM.below, h.lo, h.hi⟩
  have h1 := h.lo b (.inr (.inr hx))
  have h2 := h.x.xc_ge hb
  omega
theorem plays_xinv {w0 : World} {B2 g gx : Nat} {cv cx : Value} {ls : List Lay} (x y : Int) (hy : wrap32 x = y) (x0 : -9223372036854775808 ≤ x) (x1 : x ≤ 9223372036854775807) (W : World) (st sx : List Step) (lx : List XL) (h : PX w0 B2 g gx cv ls cx W st sx lx) :
    Calls Try.prog 13 #[.pointer (some ⟨gx, 0, none⟩), .int .i64 x] W fun e w' => e = .returned (.int .i64 (inv sx y).2) ∧ ∃ lx', PX w0 B2 g gx cv ls cx w' st (inv sx y).1 lx' := by
  subst hy
  refine (xInverse_any _ _ _ _ _ _ _ h.x x0 x1).mono ?_
  rintro e w' ⟨rfl, lx', hC, hM⟩
  have hk : Kept W w' (fun k => B2 ≤ k) := ⟨hM.saw.below.size, fun i hi hn => hM.saw.below.block i (by omega)⟩
  refine ⟨rfl, lx', h.p.kept hk (fun b hb hx => ?_), hC, h.b.trans (hM.saw.below.mono h.hi), h.lo, h.hi⟩
  have h1 := h.lo b hb
  omega
set_option maxHeartbeats 4000000 in
theorem Plays_none (k : Int) (h : k < 0 ∨ 2 < k) (a1 a2 : Value) (w : World) : Calls Try.prog 3 #[.int .i64 k, a1, a2] w fun e w' => e = .returned (.bool true) ∧ Below w.heap.size w w' := by
  have HN := Aside0.mk (New_none k h)
  have HX := Aside0.mk (xNew_none k h)
  clear h
  go_enter Try.func3, Try.ntmps3
  go_wp2_with fail
  refine (HN.out _).mono ?_
  rintro e w1 ⟨rfl, hd⟩
  have HB1 := Aside0.mk hd.below
  clear hd
  go_wp2_with fail
  refine (HX.out _).mono ?_
  rintro e w2 ⟨rfl, hd⟩
  have HB2 := Aside0.mk (HB1.out.trans (hd.mono HB1.out.size))
  clear hd HB1
  go_wp2_with fail
  refine (Forward_nil 5 _).mono ?_
  rintro e w3 ⟨rfl, hd⟩
  have HB3 := Aside0.mk (HB2.out.trans (hd.below.mono HB2.out.size))
  clear hd HB2
  go_wp2_with fail
  refine (Inverse_nil 5 _).mono ?_
  rintro e w4 ⟨rfl, hd⟩
  have HB4 := Aside0.mk (HB3.out.trans (hd.below.mono HB3.out.size))
  clear hd HB3
  go_wp2_with fail
  refine (awake_any _).mono ?_
  rintro e w5 ⟨rfl, hB⟩
  have HB5 := Aside0.mk (HB4.out.trans (hB.mono HB4.out.size))
  clear hB HB4
  go_wp2
  go_ret
  exact ⟨rfl, HB5.out⟩
theorem PX.drew {w0 : World} {B2 g gx : Nat} {cv cx : Value} {ls : List Lay} {W : World} {st sx : List Step} {lx : List XL} (h : PX w0 B2 g gx cv ls cx W st sx lx) : PX w0 B2 g gx cv ls cx W.drew st sx lx :=
  ⟨h.p.below (below_drew (Below.refl _ _)), h.x.below (below_drew (Below.refl _ _)), below_drew h.b, h.lo, h.hi⟩
set_option maxHeartbeats 8000000 in
set_option maxRecDepth 100000 in
theorem Plays_any (k : Nat) (hk : k ≤ 2) (l : List Int) (A : Option Addr) (c : Nat) (m : Nat) (A2 : Option Addr) (c2 : Nat) (V : Nat → Bool) (w : World) (hr : ReadsInt w .i64 A l.length l) (hl : ∀ x ∈ l, -9223372036854775808 ≤ x ∧ x ≤ 9223372036854775807)
    (F : ∀ j, j < m → ∃ ad, A2 = some ad ∧ w.cell? (ad.add j) = some (.bool (V j))) :
    Calls Try.prog 3 #[.int .i64 k, .slice A l.length c, .slice A2 m c2] w fun e w' => e = .returned (.bool true) ∧ Below w.heap.size w w' := by
  have HR := Aside0.mk hr
  have HL := Aside0.mk hl
  have HF := Aside0.mk F
  have HN := Aside0.mk (New_any k (by omega) (by omega))
  have HXN := Aside0.mk (xNew_any k hk)
  clear hr hl F hk
  go_enter Try.func3, Try.ntmps3
  go_wp2_with fail
  refine (HN.out _).mono ?_
  rintro e w1 ⟨g, cv, ls, rfl, hC, hB⟩
  have HC := Aside0.mk hC
  have HB := Aside0.mk hB
  clear hC hB
  go_wp2_with fail
  refine (HXN.out _).mono ?_
  rintro e w2 ⟨gx, cx, lx0, rfl, hX, hB2⟩
  have HQ0 : Aside0 (PX w w1.heap.size g gx cv ls cx w2 (start k) (start k) lx0) := ⟨HC.out.below hB2, hX, HB.out.trans (hB2.mono HB.out.size), fun k hk => chs_lt HC.out hk, HB.out.size⟩
  generalize w1.heap.size = B2 at HQ0
  generalize start (k : Int) = st0 at HQ0
  clear hX hB2 HC HB HN HXN
  go_wp2
  go_loopw [9] (fun iv wr => ∃ (i : Nat) (st : List Step) (lx : List XL), i ≤ l.length ∧ iv = .int .i64 i ∧ Aside0 (PX w B2 g gx cv ls cx wr st st lx)) (fun iv _ => l.length - (intOf iv).toNat)
  case atStart => exact ⟨0, st0, lx0, Nat.zero_le _, rfl, HQ0⟩
  case round =>
    clear HQ0
    obtain ⟨i, st, lx, hi, rfl, HQ⟩ := hrel
    by_cases hlt : i < l.length ∧ i < 300
    · obtain ⟨hlt, h300⟩ := hlt
      have i0 : (0 : Int) ≤ (i : Int) := by omega
      have i1 : (i : Int) < (l.length : Int) := by omega
      have i2 : (i : Int) < 300 := by omega
      obtain ⟨ad, rfl, hx⟩ := (HR.out.below HQ.out.b).at_ (i : Int) (by omega) i1
      have HSK : Aside0 (∀ W s1 s2 lx, PX w B2 g gx cv ls cx W s1 s2 lx → W.cell? (ad.add i) = some (.int .i64 (rd l (i : Int)))) := ⟨fun W s1 s2 lx h => by
        obtain ⟨ad2, e2, h2⟩ := (HR.out.below h.b).at_ (i : Int) (by omega) i1
        injection e2 with e2
        subst e2
        rwa [Int.toNat_natCast] at h2⟩
      rw [Int.toNat_natCast] at hx
      have hm : rd l (i : Int) ∈ l := by simp [rd, hlt]
      obtain ⟨x0, x1⟩ := HL.out _ hm
      clear hm
      generalize rd l (i : Int) = x at hx HSK x0 x1
      obtain ⟨y, hy⟩ : ∃ y, wrap32 x = y := ⟨_, rfl⟩
      have hback : (i < m ∧ V i = true) ∨ (i < m ∧ V i = false) ∨ ¬ i < m := by
        by_cases h : i < m
        · cases hv : V i
          · exact .inr (.inl ⟨h, rfl⟩)
          · exact .inl ⟨h, rfl⟩
        · exact .inr (.inr h)
      rcases hback with ⟨hm, hv⟩ | ⟨hm, hv⟩ | hm
      · have m1 : (i : Int) < (m : Int) := by omega
        obtain ⟨a2, rfl, hc2⟩ := HF.out i hm
        have hcb : wr.cell? (a2.add i) = some (.bool true) := by rw [← hv]; exact cellOf HQ.out.b hc2
        clear hc2 hv
        go_wp2
        clear hcb
        have HP := Aside0.mk (@plays_pinv w B2 g gx cv cx ls x y hy x0 x1)
        have HXP := Aside0.mk (@plays_xinv w B2 g gx cv cx ls x y hy x0 x1)
        obtain ⟨z, hz⟩ : ∃ z, (inv st y).2 = z := ⟨_, rfl⟩
        obtain ⟨s2, hs2⟩ : ∃ s2, (inv st y).1 = s2 := ⟨_, rfl⟩
        have HPZ : Aside0 (∀ W sx lx, PX w B2 g gx cv ls cx W st sx lx → Calls Try.prog 11 #[.pointer (some ⟨g, 0, none⟩), .int .i64 x] W fun e w' => e = .returned (.int .i64 z) ∧ PX w B2 g gx cv ls cx w' s2 sx lx) := ⟨fun W sx lx h => by have := HP.out W st sx lx h; rw [hz, hs2] at this; exact this⟩
        have HXZ : Aside0 (∀ W st2 lx, PX w B2 g gx cv ls cx W st2 st lx → Calls Try.prog 13 #[.pointer (some ⟨gx, 0, none⟩), .int .i64 x] W fun e w' => e = .returned (.int .i64 z) ∧ ∃ lx', PX w B2 g gx cv ls cx w' st2 s2 lx') := ⟨fun W st2 lx h => by have := HXP.out W st2 st lx h; rw [hz, hs2] at this; exact this⟩
        clear HP HXP hz hs2
        have hpx : PX w B2 g gx cv ls cx wr.drew st st lx := HQ.out.drew
        clear HQ hx
        go_region_held3 (fun W => W.cell? (ad.add i) = some (.int .i64 x)) (first | exact HSK.out _ _ _ _ hpx)
          ((first | (go_at_call 11; (with_reducible refine (HPZ.out _ _ _ hpx).mono ?_); rintro e w4 ⟨rfl, hpx4⟩; clear hpx; have hpx := hpx4; clear hpx4) | (go_at_call 13; (with_reducible refine (HXZ.out _ _ _ hpx).mono ?_); rintro e w4 ⟨rfl, lx4, hpx4⟩; clear hpx; have hpx := hpx4; clear hpx4)))
        all_goals
          have HQ4 := Aside0.mk hpx
          clear hpx
          go_wp2
          go_roundw
          case rel => exact ⟨i + 1, _, _, by omega, by go_num, HQ4⟩
          case measure => simp [intOf]; omega
      · have m1 : (i : Int) < (m : Int) := by omega
        obtain ⟨a2, rfl, hc2⟩ := HF.out i hm
        have hcb : wr.cell? (a2.add i) = some (.bool false) := by rw [← hv]; exact cellOf HQ.out.b hc2
        clear hc2 hv
        go_wp2
        clear hcb
        have HP := Aside0.mk (@plays_pfwd w B2 g gx cv cx ls x y hy x0 x1)
        have HXP := Aside0.mk (@plays_xfwd w B2 g gx cv cx ls x y hy x0 x1)
        obtain ⟨z, hz⟩ : ∃ z, (fwd st y).2 = z := ⟨_, rfl⟩
        obtain ⟨s2, hs2⟩ : ∃ s2, (fwd st y).1 = s2 := ⟨_, rfl⟩
        have HPZ : Aside0 (∀ W sx lx, PX w B2 g gx cv ls cx W st sx lx → Calls Try.prog 10 #[.pointer (some ⟨g, 0, none⟩), .int .i64 x] W fun e w' => e = .returned (.int .i64 z) ∧ PX w B2 g gx cv ls cx w' s2 sx lx) := ⟨fun W sx lx h => by have := HP.out W st sx lx h; rw [hz, hs2] at this; exact this⟩
        have HXZ : Aside0 (∀ W st2 lx, PX w B2 g gx cv ls cx W st2 st lx → Calls Try.prog 14 #[.pointer (some ⟨gx, 0, none⟩), .int .i64 x] W fun e w' => e = .returned (.int .i64 z) ∧ ∃ lx', PX w B2 g gx cv ls cx w' st2 s2 lx') := ⟨fun W st2 lx h => by have := HXP.out W st2 st lx h; rw [hz, hs2] at this; exact this⟩
        clear HP HXP hz hs2
        have hpx : PX w B2 g gx cv ls cx wr.drew st st lx := HQ.out.drew
        clear HQ hx
        go_region_held3 (fun W => W.cell? (ad.add i) = some (.int .i64 x)) (first | exact HSK.out _ _ _ _ hpx)
          ((first | (go_at_call 10; (with_reducible refine (HPZ.out _ _ _ hpx).mono ?_); rintro e w4 ⟨rfl, hpx4⟩; clear hpx; have hpx := hpx4; clear hpx4) | (go_at_call 14; (with_reducible refine (HXZ.out _ _ _ hpx).mono ?_); rintro e w4 ⟨rfl, lx4, hpx4⟩; clear hpx; have hpx := hpx4; clear hpx4)))
        all_goals
          have HQ4 := Aside0.mk hpx
          clear hpx
          go_wp2
          go_roundw
          case rel => exact ⟨i + 1, _, _, by omega, by go_num, HQ4⟩
          case measure => simp [intOf]; omega
      · have m1 : ¬ (i : Int) < (m : Int) := by omega
        go_wp2
        have HP := Aside0.mk (@plays_pfwd w B2 g gx cv cx ls x y hy x0 x1)
        have HXP := Aside0.mk (@plays_xfwd w B2 g gx cv cx ls x y hy x0 x1)
        obtain ⟨z, hz⟩ : ∃ z, (fwd st y).2 = z := ⟨_, rfl⟩
        obtain ⟨s2, hs2⟩ : ∃ s2, (fwd st y).1 = s2 := ⟨_, rfl⟩
        have HPZ : Aside0 (∀ W sx lx, PX w B2 g gx cv ls cx W st sx lx → Calls Try.prog 10 #[.pointer (some ⟨g, 0, none⟩), .int .i64 x] W fun e w' => e = .returned (.int .i64 z) ∧ PX w B2 g gx cv ls cx w' s2 sx lx) := ⟨fun W sx lx h => by have := HP.out W st sx lx h; rw [hz, hs2] at this; exact this⟩
        have HXZ : Aside0 (∀ W st2 lx, PX w B2 g gx cv ls cx W st2 st lx → Calls Try.prog 14 #[.pointer (some ⟨gx, 0, none⟩), .int .i64 x] W fun e w' => e = .returned (.int .i64 z) ∧ ∃ lx', PX w B2 g gx cv ls cx w' st2 s2 lx') := ⟨fun W st2 lx h => by have := HXP.out W st2 st lx h; rw [hz, hs2] at this; exact this⟩
        clear HP HXP hz hs2
        have hpx : PX w B2 g gx cv ls cx wr.drew st st lx := HQ.out.drew
        clear HQ hx
        go_region_held3 (fun W => W.cell? (ad.add i) = some (.int .i64 x)) (first | exact HSK.out _ _ _ _ hpx)
          ((first | (go_at_call 10; (with_reducible refine (HPZ.out _ _ _ hpx).mono ?_); rintro e w4 ⟨rfl, hpx4⟩; clear hpx; have hpx := hpx4; clear hpx4) | (go_at_call 14; (with_reducible refine (HXZ.out _ _ _ hpx).mono ?_); rintro e w4 ⟨rfl, lx4, hpx4⟩; clear hpx; have hpx := hpx4; clear hpx4)))
        all_goals
          have HQ4 := Aside0.mk hpx
          clear hpx
          go_wp2
          go_roundw
          case rel => exact ⟨i + 1, _, _, by omega, by go_num, HQ4⟩
          case measure => simp [intOf]; omega
    · rcases Nat.lt_or_ge i l.length with h1 | h1
      · have n1 : (i : Int) < (l.length : Int) := by omega
        have n2 : ¬ (i : Int) < 300 := by omega
        go_wp2_with fail
        refine (awake_any _).mono ?_
        rintro e w5 ⟨rfl, hB⟩
        have HB5 := Aside0.mk (HQ.out.b.trans (hB.mono HQ.out.b.size))
        clear hB
        go_wp2
        go_ret
        exact ⟨rfl, HB5.out⟩
      · obtain rfl : i = l.length := by omega
        go_wp2_with fail
        refine (awake_any _).mono ?_
        rintro e w5 ⟨rfl, hB⟩
        have HB5 := Aside0.mk (HQ.out.b.trans (hB.mono HQ.out.b.size))
        clear hB
        go_wp2
        go_ret
        exact ⟨rfl, HB5.out⟩
theorem Plays_came (lv : Int) (A A2 : Option Addr) (n m c c2 : Nat) (V : Nat → Int) (V2 : Nat → Bool) (w : World) (hc : n ≤ c) (hn : n * 8 ≤ 140737488351232)
    (F : ∀ j, j < n → ∃ ad, A = some ad ∧ w.cell? (ad.add j) = some (.int .i64 (V j)) ∧ -9223372036854775808 ≤ V j ∧ V j ≤ 9223372036854775807)
    (F2 : ∀ j, j < m → ∃ ad, A2 = some ad ∧ w.cell? (ad.add j) = some (.bool (V2 j))) :
    Calls Try.prog 3 #[.int .i64 lv, .slice A n c, .slice A2 m c2] w fun e w' => e = .returned (.bool true) ∧ Below w.heap.size w w' := by
  by_cases h : 0 ≤ lv ∧ lv ≤ 2
  · obtain ⟨k, rfl⟩ : ∃ k : Nat, lv = (k : Int) := ⟨lv.toNat, by omega⟩
    obtain ⟨a, rfl, ha, ia⟩ := came_list hn F
    exact Plays_any k (by omega) a A c m A2 c2 V2 w (Kd.reads_of_C (d := (0 : Int)) (enc := Value.int .i64) ha) ia F2
  · exact Plays_none lv (by omega) _ _ w
end Go.Proofs.Yteljaikpechbmaa.Hand
