/- Contracts of layer 17, proved by hand: FilterMid. -/
import Derived.Test.YteljaikpechbmaaMathC
namespace Go.Proofs.Yteljaikpechbmaa.Hand
open Go.RowKit Go.Proofs.Yteljaikpechbmaa.Q Go.Proofs.YteljaikpechbmaaW.PrintWords Go.Proofs.YteljaikpechbmaaW.PrintLast Go.Proofs.YteljaikpechbmaaW.PrintMore
set_option linter.unusedVariables false
set_option linter.unusedSimpArgs false
attribute [local go_sem] max2_int min2_int max_two min_two

theorem Mid_any (a b : List Int) (A B : Option Addr) (c d : Nat) (w : World) (hA : Kd.C (Kd.int .i64) w A a.length a) (hc : a.length ≤ c) (hB : Kd.C (Kd.int .i64) w B b.length b) (hd : b.length ≤ d) (ha : a.length * 8 ≤ 140737488351232) (hb : b.length * 8 ≤ 140737488351232) :
    Calls Try.prog 20 #[.slice A a.length c, .slice B b.length d] w fun e w' => ∃ v0 v1, e = .returned (.tuple #[v0, v1]) ∧ Got w' w.heap.size v0 (tab (min a.length b.length) (mM a b)) ∧ Got w' w.heap.size v1 (tab (min a.length b.length) (mS a b)) ∧ Below w.heap.size w w' := by
  obtain ⟨k, h⟩ := (mid_ev a b ha hb).rounds
  refine (filter_Mid.calls k A c a B d b _ _ w hA hc hB hd h).mono ?_
  rintro e w' ⟨v0, v1, rfl, h1, h2, h3⟩
  exact ⟨v0, v1, rfl, Kd.R_mono h1 (fun _ _ => trivial), Kd.R_mono h2 (fun _ _ => trivial), h3⟩
theorem Unmid_any (a b : List Int) (A B : Option Addr) (c d : Nat) (w : World) (hA : Kd.C (Kd.int .i64) w A a.length a) (hc : a.length ≤ c) (hB : Kd.C (Kd.int .i64) w B b.length b) (hd : b.length ≤ d) (ha : a.length * 8 ≤ 140737488351232) (hb : b.length * 8 ≤ 140737488351232) :
    Calls Try.prog 22 #[.slice A a.length c, .slice B b.length d] w fun e w' => ∃ v0 v1, e = .returned (.tuple #[v0, v1]) ∧ Got w' w.heap.size v0 (tab (min a.length b.length) (uA a b)) ∧ Got w' w.heap.size v1 (tab (min a.length b.length) (uB a b)) ∧ Below w.heap.size w w' := by
  obtain ⟨k, h⟩ := (unmid_ev a b ha hb).rounds
  refine (filter_Unmid.calls k A c a B d b _ _ w hA hc hB hd h).mono ?_
  rintro e w' ⟨v0, v1, rfl, h1, h2, h3⟩
  exact ⟨v0, v1, rfl, Kd.R_mono h1 (fun _ _ => trivial), Kd.R_mono h2 (fun _ _ => trivial), h3⟩
/-- A list that came in. -/
theorem C_below {w w' : World} {A : Option Addr} {l : List Int} (h : Kd.C (Kd.int .i64) w A l.length l) (hb : Below w.heap.size w w') : Kd.C (Kd.int .i64) w' A l.length l :=
  Kd.C_of_reads (d := (0 : Int)) (enc := Value.int .i64) (ReadsInt.below (Kd.reads_of_C (d := (0 : Int)) (enc := Value.int .i64) h) hb)
theorem C_head {w : World} {A : Option Addr} {l : List Int} (n : Nat) (h : Kd.C (Kd.int .i64) w A l.length l) (hn : n ≤ l.length) : Kd.C (Kd.int .i64) w A (l.take n).length (l.take n) := by
  exact Kd.C_take h hn
set_option maxHeartbeats 8000000 in
set_option maxRecDepth 100000 in
theorem MidLaw_any (a b : List Int) (A B : Option Addr) (c d : Nat) (w : World) (hA : Kd.C (Kd.int .i64) w A a.length a) (hc : a.length ≤ c) (hB : Kd.C (Kd.int .i64) w B b.length b) (hd : b.length ≤ d) (ha : a.length * 8 ≤ 140737488351232) (hb : b.length * 8 ≤ 140737488351232)
    (ia : ∀ x ∈ a, -9223372036854775808 ≤ x ∧ x ≤ 9223372036854775807) (ib : ∀ x ∈ b, -9223372036854775808 ≤ x ∧ x ≤ 9223372036854775807) :
    Calls Try.prog 7 #[.slice A a.length c, .slice B b.length d] w fun e w' => e = .returned (.bool true) ∧ Below w.heap.size w w' := by
  obtain ⟨n, hn⟩ : ∃ n, n = min a.length b.length := ⟨_, rfl⟩
  have hback := mid_back a b n hn ia ib
  have HM := Aside0.mk (Mid_any a b A B c d w hA hc hB hd ha hb)
  rw [← hn] at HM
  have hmn : (if (b.length : Int) < (a.length : Int) then (b.length : Int) else (a.length : Int)) = (n : Int) := by split <;> omega
  have hmn2 : (if b.length < a.length then (b.length : Int) else (a.length : Int)) = (n : Int) := by split <;> omega
  have n1 : n ≤ a.length := by omega
  have n2 : n ≤ b.length := by omega
  have HCA := Aside0.mk hA
  have HCB := Aside0.mk hB
  have HBK := Aside0.mk hback
  have m0 : (0 : Int) ≤ (n : Int) := by omega
  have m1 : ¬ (c : Int) < (n : Int) := by omega
  have m2 : ¬ (d : Int) < (n : Int) := by omega
  have m3 : (n : Int) ≤ (c : Int) := by omega
  have m4 : (n : Int) ≤ (d : Int) := by omega
  clear hn hback hA hB ia ib
  obtain ⟨M, hM⟩ : ∃ M, tab n (mM a b) = M := ⟨_, rfl⟩
  obtain ⟨S, hS⟩ : ∃ S, tab n (mS a b) = S := ⟨_, rfl⟩
  have lM : M.length = n := by rw [← hM, tab_length]
  have lS : S.length = n := by rw [← hS, tab_length]
  rw [hM, hS] at HM HBK
  have HLM := Aside0.mk lM
  have HLS := Aside0.mk lS
  clear hM hS lM lS
  go_enter Try.func7, Try.ntmps7
  go_wp2_with fail
  refine HM.out.mono ?_
  rintro e w1 ⟨vm, vs, rfl, h1, h2, h3⟩
  obtain ⟨Am, cm, rfl, hm1, hm2⟩ := h1.C
  obtain ⟨As, cs, rfl, hs1, hs2⟩ := h2.C
  have HB1 := Aside0.mk h3
  have HU := Aside0.mk (Unmid_any M S Am As cm cs w1 hm2 hm1 hs2 hs1 (by rw [HLM.out]; omega) (by rw [HLS.out]; omega))
  rw [HLM.out, HLS.out, Nat.min_self, HBK.out.1, HBK.out.2] at HU
  rw [HLM.out, HLS.out]
  clear h1 h2 h3 hm1 hm2 hs1 hs2 HM
  go_wp2_with fail
  refine HU.out.mono ?_
  rintro e w2 ⟨vx, vy, rfl, h1, h2, h3⟩
  have HB2 := Aside0.mk (HB1.out.trans (h3.mono HB1.out.size))
  have HX2 := Aside0.mk h1
  have HY2 := Aside0.mk h2
  clear h1 h2 h3 HU
  obtain ⟨Ax, cx, rfl, hx1, hx2⟩ := HX2.out.C
  obtain ⟨Ay, cy, rfl, hy1, hy2⟩ := HY2.out.C
  have hla : (a.take n).length = n := by rw [List.length_take]; omega
  have hlb : (b.take n).length = n := by rw [List.length_take]; omega
  have HS1 := Aside0.mk (same_any (a.take n) Ax A cx c w2 hx2 hx1 (C_head n (C_below HCA.out HB2.out) n1) (by rw [hla]; omega) (by rw [hla]; omega))
  rw [hla] at HS1
  have HY : Aside0 (∀ W : World, Below w2.heap.size w2 W → Calls Try.prog 17 #[.slice Ay (b.take n).length cy, .slice B (b.take n).length d] W fun e w' => e = .returned (.bool true) ∧ Drawn0 W w') := ⟨fun W hb => same_any (b.take n) Ay B cy d W (C_below hy2 hb) hy1 (C_head n (C_below HCB.out (HB2.out.trans (hb.mono HB2.out.size))) n2) (by rw [hlb]; omega) (by rw [hlb]; omega)⟩
  rw [hlb] at HY
  rw [hla, hlb]
  clear hx1 hx2 hy1 hy2 hla hlb HX2 HY2
  go_wp2_with fail
  refine HS1.out.mono ?_
  rintro e w3 ⟨rfl, hd⟩
  have HB3 := Aside0.mk (HB2.out.trans (hd.below.mono HB2.out.size))
  have HY3 := Aside0.mk (HY.out w3 hd.below)
  clear hd HS1 HY
  go_wp2_with fail
  refine HY3.out.mono ?_
  rintro e w4 ⟨rfl, hd⟩
  have HB4 := Aside0.mk (HB3.out.trans (hd.below.mono HB3.out.size))
  clear hd HY3
  go_wp2_with fail
  refine (awake_any _).mono ?_
  rintro e w5 ⟨rfl, hB⟩
  have HB5 := Aside0.mk (HB4.out.trans (hB.mono HB4.out.size))
  clear hB
  go_wp2
  go_ret
  exact ⟨rfl, HB5.out⟩
/-- A slice that came in, as a list. -/
theorem came_list {w : World} {A : Option Addr} {n : Nat} {V : Nat → Int} (hn : n * 8 ≤ 140737488351232) (F : ∀ j, j < n → ∃ ad, A = some ad ∧ w.cell? (ad.add j) = some (.int .i64 (V j)) ∧ -9223372036854775808 ≤ V j ∧ V j ≤ 9223372036854775807) :
    ∃ l : List Int, l.length = n ∧ Kd.C (Kd.int .i64) w A l.length l ∧ ∀ x ∈ l, -9223372036854775808 ≤ x ∧ x ≤ 9223372036854775807 := by
  refine ⟨tab n V, tab_length n V, ?_, ?_⟩
  · refine Kd.C_of_reads (d := (0 : Int)) (enc := Value.int .i64) ⟨rfl, by rw [tab_length]; omega, fun h => ?_⟩
    rw [tab_length] at h
    obtain ⟨ad, e, _⟩ := F 0 h
    refine ⟨ad, e, fun j hj => ?_⟩
    rw [tab_length] at hj
    obtain ⟨ad2, e2, c2, _⟩ := F j hj
    rw [e] at e2
    injection e2 with e2
    subst e2
    rw [c2, tab_get n V j hj]
  · intro x hx
    obtain ⟨j, hj, rfl⟩ := List.mem_map.1 hx
    obtain ⟨_, _, _, h⟩ := F j (List.mem_range.1 hj)
    exact h
theorem MidLaw_came (A B : Option Addr) (n m c d : Nat) (V U : Nat → Int) (w : World) (hc : n ≤ c) (hd : m ≤ d) (hn : n * 8 ≤ 140737488351232) (hm : m * 8 ≤ 140737488351232)
    (F : ∀ j, j < n → ∃ ad, A = some ad ∧ w.cell? (ad.add j) = some (.int .i64 (V j)) ∧ -9223372036854775808 ≤ V j ∧ V j ≤ 9223372036854775807) (G : ∀ j, j < m → ∃ ad, B = some ad ∧ w.cell? (ad.add j) = some (.int .i64 (U j)) ∧ -9223372036854775808 ≤ U j ∧ U j ≤ 9223372036854775807) :
    Calls Try.prog 7 #[.slice A n c, .slice B m d] w fun e w' => e = .returned (.bool true) ∧ Below w.heap.size w w' := by
  obtain ⟨a, rfl, ha, ia⟩ := came_list hn F
  obtain ⟨b, rfl, hb, ib⟩ := came_list hm G
  exact MidLaw_any a b A B c d w ha hc hb hd hn hm ia ib
end Go.Proofs.Yteljaikpechbmaa.Hand
