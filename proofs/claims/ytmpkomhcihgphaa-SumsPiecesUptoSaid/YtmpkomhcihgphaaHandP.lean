/- Contracts of layer 3, proved by hand: a sum that goes on, by its kind; SumsPieces. -/
import Derived.Test.YtmpkomhcihgphaaHandO
namespace Go.Proofs.Ytmpkomhcihgphaa.Hand
open Go.RowKit Go.Proofs.Ytmpkomhcihgphaa.Q Go.Proofs.Ytmpkomhcihgphaa.Math Go.Proofs.YtmpkomhcihgphaaW.PrintWords Go.Proofs.YtmpkomhcihgphaaW.PrintLast Go.Proofs.YtmpkomhcihgphaaW.PrintMore
set_option linter.unusedVariables false
set_option linter.unusedSimpArgs false

theorem byteAt_left (s t : ByteArray) (k : Nat) (h : k < s.size) : byteAt (s ++ t) k = byteAt s k := by
  unfold byteAt
  rw [ByteArray.data_append, Array.toList_append, List.getD_eq_getElem?_getD, List.getD_eq_getElem?_getD, List.getElem?_append_left (by simpa using h)]
theorem byteAt_right (s t : ByteArray) (k : Nat) : byteAt (s ++ t) (s.size + k) = byteAt t k := by
  have e : s.data.toList.length = s.size := by simp
  unfold byteAt
  rw [ByteArray.data_append, Array.toList_append, List.getD_eq_getElem?_getD, List.getD_eq_getElem?_getD, List.getElem?_append_right (by rw [e]; omega), e, show s.size + k - s.size = k by omega]
theorem sumTo_left (f : Int → Int → Int) (s t : ByteArray) (n : Int) : ∀ k, k ≤ s.size → sumTo f (s ++ t) n k = sumTo f s n k
  | 0, _ => rfl
  | k + 1, h => by rw [sumTo, sumTo, sumTo_left f s t n k (by omega), byteAt_left s t k (by omega)]
theorem sumTo_right (f : Int → Int → Int) (s t : ByteArray) (n : Int) : ∀ k, sumTo f (s ++ t) n (s.size + k) = sumTo f t (sumTo f s n s.size) k
  | 0 => sumTo_left f s t n s.size (Nat.le_refl _)
  | k + 1 => by rw [← Nat.add_assoc, sumTo, sumTo, sumTo_right f s t n k, byteAt_right s t k]
theorem sumTo_app (f : Int → Int → Int) (s t : ByteArray) (n : Int) : sumTo f (s ++ t) n (s ++ t).size = sumTo f t (sumTo f s n s.size) t.size := by
  rw [ByteArray.size_append, sumTo_right]
/-- A sum of a kind behind a text. -/
def KS (k : Int) (w : World) (g : Nat) (s : ByteArray) : Prop :=
  (k = 8 ∧ SumAt w g 8 7 false (sumTo (addH 8 7) s 0 s.size)) ∨ (k = 16 ∧ SumAt w g 16 32773 false (sumTo (addH 16 32773) s 0 s.size)) ∨
  (k = 32 ∧ SumAt w g 32 79764919 false (sumTo (addH 32 79764919) s 0 s.size)) ∨ (k = 33 ∧ SumAt w g 32 3988292384 true (sumTo (addL 3988292384) s 4294967295 s.size))
def nought : ByteArray := ⟨#[]⟩
theorem KS.below {k : Int} {w w' : World} {g : Nat} {s : ByteArray} (h : KS k w g s) (hb : Below w.heap.size w w') : KS k w' g s := by
  rcases h with ⟨e, h⟩ | ⟨e, h⟩ | ⟨e, h⟩ | ⟨e, h⟩
  · exact .inl ⟨e, blk_below h hb⟩
  · exact .inr (.inl ⟨e, blk_below h hb⟩)
  · exact .inr (.inr (.inl ⟨e, blk_below h hb⟩))
  · exact .inr (.inr (.inr ⟨e, blk_below h hb⟩))
theorem New_kind (k : Int) (hk : isKind k) (w : World) :
    Calls Try.prog 17 #[.int .i64 k] w fun e w' => ∃ g, e = .returned (.pointer (some ⟨g, 0, none⟩)) ∧ w.heap.size ≤ g ∧ KS k w' g nought ∧ Below w.heap.size w w' := by
  rcases hk with rfl | rfl | rfl | rfl
  · exact (New_high 8 8 7 (by decide) (by decide) 0 rfl w).mono fun e w' ⟨g, he, hg, hS, hB⟩ => ⟨g, he, hg, .inl ⟨rfl, hS⟩, hB⟩
  · exact (New_high 16 16 32773 (by decide) (by decide) 1 rfl w).mono fun e w' ⟨g, he, hg, hS, hB⟩ => ⟨g, he, hg, .inr (.inl ⟨rfl, hS⟩), hB⟩
  · exact (New_high 32 32 79764919 (by decide) (by decide) 2 rfl w).mono fun e w' ⟨g, he, hg, hS, hB⟩ => ⟨g, he, hg, .inr (.inr (.inl ⟨rfl, hS⟩)), hB⟩
  · exact (New_low 33 32 3988292384 3 rfl w).mono fun e w' ⟨g, he, hg, hS, hB⟩ => ⟨g, he, hg, .inr (.inr (.inr ⟨rfl, hS⟩)), hB⟩
theorem Add_kind (k : Int) (g : Nat) (s t : ByteArray) (w : World) (h : KS k w g s) (ht : t.size ≤ maxLen) (B : Nat) (hg : B ≤ g) :
    Calls Try.prog 20 #[.pointer (some ⟨g, 0, none⟩), .string t] w fun e w' => e = .returned (.tuple #[]) ∧ KS k w' g (s ++ t) ∧ Below B w w' := by
  rcases h with ⟨rfl, h⟩ | ⟨rfl, h⟩ | ⟨rfl, h⟩ | ⟨rfl, h⟩
  · exact (Add_high 8 7 _ (by decide) (by decide) g t w h ht B hg).mono fun e w' ⟨he, hS, hB⟩ => ⟨he, .inl ⟨rfl, by rw [sumTo_app]; exact hS⟩, hB⟩
  · exact (Add_high 16 32773 _ (by decide) (by decide) g t w h ht B hg).mono fun e w' ⟨he, hS, hB⟩ => ⟨he, .inr (.inl ⟨rfl, by rw [sumTo_app]; exact hS⟩), hB⟩
  · exact (Add_high 32 79764919 _ (by decide) (by decide) g t w h ht B hg).mono fun e w' ⟨he, hS, hB⟩ => ⟨he, .inr (.inr (.inl ⟨rfl, by rw [sumTo_app]; exact hS⟩)), hB⟩
  · exact (Add_low 32 3988292384 _ g t w h ht B hg).mono fun e w' ⟨he, hS, hB⟩ => ⟨he, .inr (.inr (.inr ⟨rfl, by rw [sumTo_app]; exact hS⟩)), hB⟩
theorem Value_kind (k : Int) (g : Nat) (s : ByteArray) (w : World) (h : KS k w g s) :
    Calls Try.prog 19 #[.pointer (some ⟨g, 0, none⟩)] w fun e w' => e = .returned (.int .i64 (sumF k s)) ∧ Drawn0 w w' := by
  rcases h with ⟨rfl, h⟩ | ⟨rfl, h⟩ | ⟨rfl, h⟩ | ⟨rfl, h⟩
  · rw [sumF_8]; exact Value_high 8 7 _ (by decide) (by decide) g w h
  · rw [sumF_16]; exact Value_high 16 32773 _ (by decide) (by decide) g w h
  · rw [sumF_32]; exact Value_high 32 79764919 _ (by decide) (by decide) g w h
  · rw [sumF_33]; exact Value_low 32 3988292384 _ g w h
theorem Of_ev (k : Int) (hk : isKind k) (s : ByteArray) (hs : s.size < 9223372036854775807) : Ev (fun n => lacquerref03_Of.f n k s) (sumF k s, true) := by
  unfold lacquerref03_Of.f
  rcases hk with rfl | rfl | rfl | rfl
  · simp only [if_true]; exact Ev.bind (rCrc8_ev s hs) (Ev.now _)
  · simp only [show ¬ ((16 : Int) = 8) by decide, if_true, if_false]; exact Ev.bind (rCrc16_ev s hs) (Ev.now _)
  · simp only [show ¬ ((32 : Int) = 8) by decide, show ¬ ((32 : Int) = 16) by decide, if_true, if_false]; exact Ev.bind (rOgg_ev s hs) (Ev.now _)
  · simp only [show ¬ ((33 : Int) = 8) by decide, show ¬ ((33 : Int) = 16) by decide, show ¬ ((33 : Int) = 32) by decide, if_true, if_false]; exact Ev.bind (rCrc32_ev s hs) (Ev.now _)
theorem Of_kind (k : Int) (hk : isKind k) (s : ByteArray) (hs : s.size < 9223372036854775807) (w : World) :
    Calls Try.prog 18 #[.int .i64 k, .string s] w fun e w' => e = .returned (.tuple #[.int .i64 (sumF k s), .bool true]) ∧ Drawn0 w w' := by
  obtain ⟨n, h⟩ := (Of_ev k hk s hs).rounds
  exact lacquerref03_Of.calls n k s _ _ w h
theorem Of_none (k : Int) (hk : ¬ isKind k) (s : ByteArray) (w : World) :
    Calls Try.prog 18 #[.int .i64 k, .string s] w fun e w' => e = .returned (.tuple #[.int .i64 0, .bool false]) ∧ Drawn0 w w' := by
  refine lacquerref03_Of.calls 0 k s _ _ w ?_
  unfold isKind at hk
  unfold lacquerref03_Of.f
  rw [if_neg (fun h => hk (.inl h)), if_neg (fun h => hk (.inr (.inl h))), if_neg (fun h => hk (.inr (.inr (.inl h)))), if_neg (fun h => hk (.inr (.inr (.inr h))))]
theorem spec_none (k : Int) (hk : ¬ isKind k) : specOf k = none := by
  unfold isKind at hk
  unfold specOf
  rw [if_neg (fun h => hk (.inl h)), if_neg (fun h => hk (.inr (.inl h))), if_neg (fun h => hk (.inr (.inr (.inl h)))), if_neg (fun h => hk (.inr (.inr (.inr h))))]
/-- The first texts, one behind the other. -/
def cat (S : Nat → ByteArray) : Nat → ByteArray
  | 0 => nought
  | d + 1 => cat S d ++ S d
set_option maxHeartbeats 2000000 in
set_option maxRecDepth 100000 in
theorem Pieces_none (k : Int) (hk : ¬ isKind k) (A : Option Addr) (n c : Nat) (w : World) :
    Calls Try.prog 4 #[.slice A n c, .int .i64 k] w fun e w' => e = .returned (.bool true) ∧ Below w.heap.size w w' := by
  have hup := Try.underlying26
  have HK := Aside0.mk hk
  have HSP := Aside0.mk (spec_none k hk)
  clear hk
  go_enter Try.func4, Try.ntmps4
  go_wp2_with fail
  refine (New_none k HSP.out _).mono ?_
  rintro e w1 ⟨rfl, hB⟩
  have HB := Aside0.mk hB
  clear hB
  go_wp2_with fail
  refine (Of_none k HK.out _ _).mono ?_
  rintro e w2 ⟨rfl, ⟨m, rfl⟩⟩
  go_wp2_with fail
  refine (Value_nil _).mono ?_
  rintro e w3 ⟨rfl, ⟨m2, rfl⟩⟩
  go_wp2_with fail
  refine (awake_any _).mono ?_
  rintro e w4 ⟨rfl, hB⟩
  have HB2 := Aside0.mk ((pw_below_drewN HB.out (m + m2)).trans (hB.mono (pw_below_drewN HB.out (m + m2)).size))
  clear hB
  go_wp2
  go_ret
  exact ⟨rfl, HB2.out⟩
set_option maxHeartbeats 2000000 in
set_option maxRecDepth 100000 in
theorem Pieces_kind (k : Int) (hk : isKind k) (A : Option Addr) (n c : Nat) (S : Nat → ByteArray) (w : World) (hA : ∀ i, i < n → ∃ ad, A = some ad ∧ w.cell? (ad.add i) = some (.string (S i)) ∧ (S i).size ≤ maxLen) (hn : n ≤ 1048576) (hsum : ∀ d, d ≤ n → (cat S d).size ≤ 1048576) :
    Calls Try.prog 4 #[.slice A n c, .int .i64 k] w fun e w' => e = .returned (.bool true) ∧ Below w.heap.size w w' := by
  have hup := Try.underlying26
  have HK := Aside0.mk hk
  have HA := Aside0.mk hA
  have HSUM := Aside0.mk hsum
  clear hk hA hsum
  go_enter Try.func4, Try.ntmps4
  go_wp2_with fail
  refine (New_kind k HK.out _).mono ?_
  rintro e w1 ⟨g, rfl, hg, hS, hB⟩
  have HB := Aside0.mk hB
  have HS := Aside0.mk hS
  clear hB hS
  go_wp2_with fail
  refine (Of_kind k HK.out _ (by decide) _).mono ?_
  rintro e w2 ⟨rfl, ⟨m, rfl⟩⟩
  have HB1 := Aside0.mk (pw_below_drewN HB.out m)
  have HS1 := Aside0.mk (HS.out.below (pw_below_drewN (Below.refl _ _) m))
  generalize w1.drewN m = w2 at HB1 HS1
  clear HB HS
  go_wp2
  go_loopw [8, 9, 10, 11] (fun a i _ _ wr => ∃ d : Nat, d ≤ n ∧ i = .int .i64 d ∧ a = .string (cat S d) ∧ Aside0 (KS k wr g (cat S d)) ∧ Aside0 (Below w.heap.size w wr)) (fun _ i _ _ _ => n - (intOf i).toNat)
  case atStart => exact ⟨0, by omega, rfl, rfl, HS1, HB1⟩
  case round =>
    obtain ⟨d, hd, rfl, rfl, HS, HB⟩ := hrel
    by_cases hlt : d < n
    · have i1 : (d : Int) < (n : Int) := by omega
      obtain ⟨ad, rfl, hcell, hsz⟩ := HA.out d hlt
      have hc2 := pw_cell_below HB.out hcell
      have HSZ := Aside0.mk hsz
      have hz1 := HSUM.out d (by omega)
      have hz2 := HSUM.out (d + 1) (by omega)
      have hcat : cat S (d + 1) = cat S d ++ S d := rfl
      rw [hcat] at hz2
      have HCAT := Aside0.mk hcat
      rw [ByteArray.size_append] at hz2
      have HZ := Aside0.mk hz2
      have HCELL := Aside0.mk hcell
      clear hcell hcat
      generalize cat S d = s0 at *
      generalize S d = t0 at *
      go_wp2_with fail
      refine (Add_kind k g s0 t0 _ HS.out HSZ.out w.heap.size hg).mono ?_
      rintro e w3 ⟨rfl, hS3, hB3⟩
      have hc3 := pw_cell_below (HB.out.trans hB3) HCELL.out
      have HS3 := Aside0.mk hS3
      have HB3 := Aside0.mk (HB.out.trans hB3)
      clear hS3 hB3 hc2
      go_wp2_with fail
      refine (Of_kind k HK.out _ (by rw [ByteArray.size_append]; have := HZ.out; omega) _).mono ?_
      rintro e w4 ⟨rfl, ⟨m3, rfl⟩⟩
      have HB4 := Aside0.mk (pw_below_drewN HB3.out m3)
      have HS4 := Aside0.mk (HS3.out.below (pw_below_drewN (Below.refl _ _) m3))
      generalize w3.drewN m3 = w4 at HB4 HS4
      clear HS3 HB3 hc3
      go_wp2_with fail
      refine (Value_kind k g _ _ HS4.out).mono ?_
      rintro e w5 ⟨rfl, ⟨m4, rfl⟩⟩
      go_wp2
      go_roundw
      case rel => exact ⟨d + 1, by omega, by go_num, by rw [HCAT.out], by rw [HCAT.out]; exact ⟨HS4.out.below (pw_below_drewN (Below.refl _ _) m4)⟩, ⟨pw_below_drewN HB4.out m4⟩⟩
      case measure => simp [intOf]; omega
    · obtain rfl : d = n := by omega
      go_wp2_with fail
      refine (awake_any _).mono ?_
      rintro e w3 ⟨rfl, hB3⟩
      have HB3 := Aside0.mk (HB.out.trans (hB3.mono HB.out.size))
      clear hB3
      go_wp2
      go_ret
      exact ⟨rfl, HB3.out⟩
theorem Pieces_any (k : Int) (A : Option Addr) (n c : Nat) (S : Nat → ByteArray) (w : World) (hA : ∀ i, i < n → ∃ ad, A = some ad ∧ w.cell? (ad.add i) = some (.string (S i)) ∧ (S i).size ≤ maxLen) (h : n ≤ 1048576 ∧ ∀ d, d ≤ n → (cat S d).size ≤ 1048576) :
    Calls Try.prog 4 #[.slice A n c, .int .i64 k] w fun e w' => e = .returned (.bool true) ∧ Below w.heap.size w w' := by
  by_cases hk : isKind k
  · exact Pieces_kind k hk A n c S w hA h.1 h.2
  · exact Pieces_none k hk A n c w
end Go.Proofs.Ytmpkomhcihgphaa.Hand
