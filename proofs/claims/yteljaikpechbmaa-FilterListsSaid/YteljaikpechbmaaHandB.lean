/- Contracts of layer 17, proved by hand: a filter of taps. -/
import Derived.Test.YteljaikpechbmaaHandA
namespace Go.Proofs.Yteljaikpechbmaa.Hand
open Go.RowKit Go.Proofs.Yteljaikpechbmaa.Q Go.Proofs.YteljaikpechbmaaW.PrintWords Go.Proofs.YteljaikpechbmaaW.PrintLast Go.Proofs.YteljaikpechbmaaW.PrintMore
set_option linter.unusedVariables false
set_option linter.unusedSimpArgs false
attribute [local go_sem] max2_int min2_int max_two min_two

/-- A filter's blocks: its head in g, its weights in bw, its numbers in bs. -/
structure TapAt (w : World) (g bw bs n : Nat) (ws saw : List Int) (at_ : Nat) : Prop where
  hd : w.heap[g]? = some (.cells #[.slice (some ⟨bw, 0, none⟩) n n, .slice (some ⟨bs, 0, none⟩) n n, .int .i64 at_] 67 (0, 0))
  wr : Row w bw .i16 68 ws
  sr : Row w bs .i64 3 saw
  wl : ws.length = n
  sl : saw.length = n
  al : at_ < n
set_option maxHeartbeats 4000000 in
theorem number_any (g bw bs n : Nat) (ws saw : List Int) (a i : Nat) (hi : i < n) (hn : n ≤ 64) (w : World) (h : TapAt w g bw bs n ws saw a) :
    Calls Try.prog 52 #[.pointer (some ⟨g, 0, none⟩), .int .i64 i] w fun e w' => e = .returned (.int .i64 (saw.getD ((a + i) % n) 0)) ∧ Drawn0 w w' := by
  have c1 : w.cell? ⟨g, 1, none⟩ = some (.slice (some ⟨bs, 0, none⟩) n n) := blk_cell h.hd 1
  have c2 : w.cell? ⟨g, 2, none⟩ = some (.int .i64 a) := blk_cell h.hd 2
  have hal := h.al
  have hlt : (a + i) % n < n := Nat.mod_lt _ (by omega)
  have ck := h.sr.cell ((a + i) % n) (by rw [h.sl]; exact hlt)
  have e1 : IntKind.i64.wrap ((a : Int) + (i : Int)) = ((a + i : Nat) : Int) := by rw [IntKind.wrap_i64]; omega
  have e2 : ((a + i : Nat) : Int).tmod (n : Int) = (((a + i) % n : Nat) : Int) := by rw [Int.tmod_eq_emod_of_nonneg (by omega)]; exact (Int.natCast_emod _ _).symm
  have n0 : ¬ (n : Int) = 0 := by omega
  generalize saw.getD ((a + i) % n) 0 = x at ck ⊢
  generalize (a + i) % n = k at hlt ck e2
  generalize a + i = q at e1 e2
  have k0 : (0 : Int) ≤ (k : Int) := by omega
  have k1 : (k : Int) < (n : Int) := by omega
  clear h hal
  go_enter Try.func52, Try.ntmps52
  go_wp2
  go_big_quiet (fail)
  go_wp2
  go_ret
  exact ⟨rfl, ⟨_, rfl⟩⟩
theorem TapAt.same {w w' : World} {g bw bs n : Nat} {ws saw : List Int} {a : Nat} (h : TapAt w g bw bs n ws saw a) (hd : Drawn0 w w') : TapAt w' g bw bs n ws saw a := by
  obtain ⟨m, rfl⟩ := hd
  exact ⟨h.hd, h.wr, h.sr, h.wl, h.sl, h.al⟩
theorem drawn_trans {w w1 w2 : World} (h : Drawn0 w w1) (k : Drawn0 w1 w2) : Drawn0 w w2 := by
  obtain ⟨m, rfl⟩ := k
  exact h.step m
/-- A number within 16 bits. -/
def clamp (x : Int) : Int := if 32767 < (if x < -32768 then -32768 else x) then 32767 else (if x < -32768 then -32768 else x)
theorem clamp_in (x : Int) : -32768 ≤ clamp x ∧ clamp x ≤ 32767 := by
  unfold clamp
  split <;> split <;> omega
/-- The sum of so many products. -/
def fsum (ws : List Int) (f : Nat → Int) : Nat → Int
  | 0 => 0
  | k + 1 => fsum ws f k + ws.getD k 0 * clamp (f k)
def In16 (ws : List Int) : Prop := ∀ x ∈ ws, -32768 ≤ x ∧ x ≤ 32767
theorem In16.at {ws : List Int} (h : In16 ws) (k : Nat) : -32768 ≤ ws.getD k 0 ∧ ws.getD k 0 ≤ 32767 := by
  rw [List.getD_eq_getElem?_getD]
  rcases Nat.lt_or_ge k ws.length with hk | hk
  · rw [List.getElem?_eq_getElem hk]
    exact h _ (List.getElem_mem hk)
  · rw [List.getElem?_eq_none hk]
    exact ⟨by decide, by decide⟩
theorem prod_in {x y : Int} (hx : -32768 ≤ x ∧ x ≤ 32767) (hy : -32768 ≤ y ∧ y ≤ 32767) : -1073741824 ≤ x * y ∧ x * y ≤ 1073741824 := by
  have h1 : x.natAbs ≤ 32768 := by omega
  have h2 : y.natAbs ≤ 32768 := by omega
  have h3 : (x * y).natAbs ≤ 32768 * 32768 := by rw [Int.natAbs_mul]; exact Nat.mul_le_mul h1 h2
  omega
theorem fsum_in {ws : List Int} (h : In16 ws) (f : Nat → Int) : ∀ k : Nat, -1073741824 * (k : Int) ≤ fsum ws f k ∧ fsum ws f k ≤ 1073741824 * (k : Int)
  | 0 => by simp [fsum]
  | k + 1 => by
    have h1 := fsum_in h f k
    have h2 := prod_in (h.at k) (clamp_in (f k))
    rw [fsum]
    omega
set_option maxHeartbeats 4000000 in
theorem foretell_any (g bw bs n : Nat) (ws saw : List Int) (a : Nat) (hn : n ≤ 64) (hw : In16 ws) (w : World) (h : TapAt w g bw bs n ws saw a) :
    Calls Try.prog 50 #[.pointer (some ⟨g, 0, none⟩)] w fun e w' => e = .returned (.int .i64 (fsum ws (fun i => saw.getD ((a + i) % n) 0) n / 8192)) ∧ Drawn0 w w' := by
  have c0 : w.cell? ⟨g, 0, none⟩ = some (.slice (some ⟨bw, 0, none⟩) n n) := blk_cell h.hd 0
  have H := Aside0.mk h
  have HW := Aside0.mk hw
  clear h hw
  obtain ⟨f, hf⟩ : ∃ f : Nat → Int, (fun i => saw.getD ((a + i) % n) 0) = f := ⟨_, rfl⟩
  rw [hf]
  have HF := Aside0.mk (fun i => congrFun hf i)
  clear hf
  go_enter Try.func50, Try.ntmps50
  go_wp2
  go_loopw [3, 11] (fun s i wr => ∃ k : Nat, k ≤ n ∧ i = .int .i64 k ∧ s = .int .i64 (fsum ws f k) ∧ Aside0 (Drawn0 w wr)) (fun _ i _ => n - (intOf i).toNat)
  case atStart => exact ⟨0, Nat.zero_le _, rfl, rfl, ⟨Drawn0.refl _⟩⟩
  case round =>
    obtain ⟨k, hk, rfl, rfl, HD⟩ := hrel
    by_cases hlt : k < n
    · have HT := Aside0.mk (H.out.same HD.out)
      have i1 : (k : Int) < (n : Int) := by omega
      have cw := HT.out.wr.cell k (by rw [HT.out.wl]; exact hlt)
      have HN := Aside0.mk (number_any g bw bs n ws saw a k hlt hn wr HT.out)
      have hfk := HF.out k
      rw [hfk] at HN
      have hs1 : fsum ws f (k + 1) = fsum ws f k + ws.getD k 0 * clamp (f k) := rfl
      obtain ⟨s1, s2⟩ := fsum_in HW.out f k
      have b1 := HW.out.at k
      obtain ⟨p1, p2⟩ := prod_in b1 (clamp_in (f k))
      have hck : (if 32767 < (if f k < -32768 then -32768 else f k) then 32767 else (if f k < -32768 then -32768 else f k)) = clamp (f k) := rfl
      obtain ⟨y1, y2⟩ := b1
      generalize fsum ws f k = S at hs1 s1 s2
      generalize ws.getD k 0 = y at hs1 cw y1 y2 p1 p2
      generalize clamp (f k) = c at hs1 hck p1 p2
      generalize f k = x at HN hck
      obtain ⟨p, hp⟩ : ∃ p, y * c = p := ⟨_, rfl⟩
      rw [hp] at hs1 p1 p2
      have ep : IntKind.i64.wrap (y * c) = p := by rw [hp, IntKind.wrap_i64]; omega
      have HS2 := Aside0.mk hs1
      have q1 : -70000000000 ≤ S := by omega
      have q2 : S ≤ 70000000000 := by omega
      clear hs1 s1 s2 hfk hp
      go_wp2_with fail
      refine HN.out.mono ?_
      rintro e w2 ⟨rfl, hd2⟩
      have HD2 := Aside0.mk (drawn_trans HD.out hd2)
      clear hd2 cw
      go_wp2
      go_roundw
      case rel => exact ⟨k + 1, by omega, by go_num, by rw [HS2.out], HD2⟩
      case measure => simp [intOf]; omega
    · obtain rfl : k = n := by omega
      go_wp2
      go_ret
      exact ⟨rfl, HD.out⟩
end Go.Proofs.Yteljaikpechbmaa.Hand
