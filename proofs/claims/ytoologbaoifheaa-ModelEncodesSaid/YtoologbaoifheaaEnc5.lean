/- Texts of this claim's proof, laid behind each other: The plain law of layer 19: a thousand noughts have few bytes; Contracts of layer 19, proved by hand: awake; Contracts of layer 19, proved by hand: ModelFolds, ModelBack, ModelHeads; Contracts of layer 19, proved by hand: the reference's counts; Contracts of layer 19, proved by hand: the reference's classes, pieces; a class is seen; Contracts of layer 19, proved by hand: the reference's Encode; Contracts of layer 19, proved by hand: ModelEncodes -/
import Derived.Laws.MakeOwn
import Derived.Test.YtoologbaoifheaaEnc4
/- The plain law of layer 19: a thousand noughts have few bytes. -/
namespace Go.Proofs.Ytoologbaoifheaa.Math
open Go.RowKit Go.Proofs.Ytoologbaoifheaa.Hand Go.Proofs.YtoologbaoifheaaW.PrintWords Go.Proofs.YtoologbaoifheaaW.PrintLast Go.Proofs.YtoologbaoifheaaW.PrintMore
set_option linter.unusedVariables false
set_option linter.unusedSimpArgs false

/-- An encoder in which nothing but noughts stands. -/
def zE (w m : Nat) : Enc := ⟨0, w, 0, 1, List.replicate m 0⟩
theorem zE_wide (w m : Nat) : wideE (zE w m) = zE (w * 256) (m + 1) := by
  unfold wideE shiftE
  rw [if_pos (.inl (show (0 : Int) < 4278190080 by decide))]
  unfold onE carryE zE carryOut
  simp [List.replicate_succ']
def normZ : Nat → Nat × Nat → Nat × Nat
  | 0, p => p
  | k + 1, p => if p.1 < 16777216 then normZ k (p.1 * 256, p.2 + 1) else p
theorem zE_norm : ∀ (k w m : Nat), normE k (zE w m) = zE (normZ k (w, m)).1 (normZ k (w, m)).2
  | 0, w, m => rfl
  | k + 1, w, m => by
    unfold normE normZ
    by_cases h : w < 16777216
    · rw [if_pos (show (zE w m).width / 16777216 = 0 by show ((w : Int) / 16777216 = 0); omega), if_pos h, zE_wide, zE_norm k]
    · rw [if_neg (show ¬ (zE w m).width / 16777216 = 0 by show ¬ ((w : Int) / 16777216 = 0); omega), if_neg h]
theorem zE_put (n t w m : Nat) : putE 0 n t (zE w m) = zE (normZ 3 (w / t * n, m)).1 (normZ 3 (w / t * n, m)).2 := by
  rw [← zE_norm]
  have e : partE 0 n t (zE w m) = zE (w / t * n) m := by
    unfold partE zE
    simp
  unfold putE
  rw [e]
/-- Counts when so many noughts were seen. -/
def zC (j : Nat) : List Int := ((1 + 32 * j : Nat) : Int) :: List.replicate 41 1
def zS (w m j : Nat) : St := ⟨zE w m, zC j, ((42 + 32 * j : Nat) : Int)⟩
theorem z_step (w m j : Nat) (h : 42 + 32 * (j + 1) ≤ 32768) : stepS (zS w m j) 0 = zS (normZ 3 (w / (42 + 32 * j) * (1 + 32 * j), m)).1 (normZ 3 (w / (42 + 32 * j) * (1 + 32 * j), m)).2 (j + 1) := by
  have h1 : numU 0 = 0 := by decide +kernel
  have h2 : blen 0 = 0 := by decide +kernel
  unfold stepS
  rw [h1, h2]
  have h3 : belowC (zS w m j).c 0 = 0 := rfl
  have h4 : (zS w m j).c.getD 0 0 = ((1 + 32 * j : Nat) : Int) := rfl
  have h5 : (zS w m j).s = ((42 + 32 * j : Nat) : Int) := rfl
  have h6 : (zS w m j).e = zE w m := rfl
  have h7 : sawC (zS w m j).c (zS w m j).s 0 = (zC (j + 1), ((42 + 32 * (j + 1) : Nat) : Int)) := by
    unfold sawC
    rw [h5, if_pos (by omega), h4]
    have e1 : ((1 + 32 * j : Nat) : Int) + 32 = ((1 + 32 * (j + 1) : Nat) : Int) := by omega
    have e2 : ((42 + 32 * j : Nat) : Int) + 32 = ((42 + 32 * (j + 1) : Nat) : Int) := by omega
    rw [e1, e2]
    rfl
  rw [h3, h4, h7, h5, h6, zE_put]
  rfl
def zrun : Nat → Nat → Nat × Nat → Nat × Nat
  | 0, _, p => p
  | f + 1, j, p => zrun f (j + 1) (normZ 3 (p.1 / (42 + 32 * j) * (1 + 32 * j), p.2))
theorem z_run : ∀ (f j w m : Nat), 42 + 32 * (j + f) ≤ 32768 → (List.replicate f (0 : Int)).foldl stepS (zS w m j) = zS (zrun f j (w, m)).1 (zrun f j (w, m)).2 (j + f)
  | 0, j, w, m, _ => rfl
  | f + 1, j, w, m, h => by
    rw [List.replicate_succ, List.foldl_cons, z_step w m j (by omega), z_run f (j + 1) _ _ (by omega), show j + 1 + f = j + (f + 1) by omega]
    rfl
theorem z_size (w m j : Nat) : sizeE (zS w m j).e = m + 1 := by simp [sizeE, zS, zE]
theorem z_few : (zrun 1000 0 (4294967295, 0)).2 ≤ 30 := by decide +kernel
def noughts : List Int := List.replicate 1000 0
theorem noughts_len : noughts.length = 1000 := List.length_replicate
theorem noughts_in : ∀ n ∈ noughts, inB n := by
  intro n hn
  rw [(List.mem_replicate.1 hn).2]
  decide
theorem noughts_size : (finishS (runS noughts).e).size < 40 := by
  rw [enc_size _ noughts_in]
  have e : runS noughts = zS (zrun 1000 0 (4294967295, 0)).1 (zrun 1000 0 (4294967295, 0)).2 (0 + 1000) := z_run 1000 0 4294967295 0 (by decide)
  rw [e, z_size]
  have := z_few
  omega
theorem enc_noughts : encF noughts = (finishS (runS noughts).e, 0) := by
  unfold encF
  rw [if_pos noughts_in]
theorem dec_noughts (behind : ByteArray) : decF (finishS (runS noughts).e ++ behind) 1000 = (noughts, ((finishS (runS noughts).e).size : Int), 0) := by
  have h := (dec_back noughts [] (by rw [List.append_nil]; exact noughts_in) (by rw [noughts_len]; decide) behind).1
  rw [List.append_nil, noughts_len] at h
  rw [enc_size _ noughts_in]
  exact h
end Go.Proofs.Ytoologbaoifheaa.Math
/- Contracts of layer 19, proved by hand: awake. -/
namespace Go.Proofs.Ytoologbaoifheaa.Hand
open Go.RowKit Go.Proofs.Ytoologbaoifheaa.Q Go.Proofs.Ytoologbaoifheaa.Math Go.Proofs.YtoologbaoifheaaW.PrintWords Go.Proofs.YtoologbaoifheaaW.PrintLast Go.Proofs.YtoologbaoifheaaW.PrintMore
set_option linter.unusedVariables false
set_option linter.unusedSimpArgs false

def nrow : Array Value := (noughts.map (Value.int .i64)).toArray
theorem made_zeros (n : Nat) : madeCells (Value.int .i64 0).cells (n * 1) = ((List.replicate n (0 : Int)).map (Value.int .i64)).toArray := by
  apply Array.ext'
  simp [madeCells, Value.cells, Nat.mod_one]
  apply List.ext_getElem
  · simp
  · intro i h1 h2
    simp
theorem made_nrow : madeCells (Value.int .i64 0).cells (1000 * 1) = nrow := made_zeros 1000
theorem make1000 (w : World) : (Instr.makeSlice 25 (.int .i64 1000) (.int .i64 1000)).run Try.prog w = .ok (.slice (some ⟨w.heap.size, 0, none⟩) 1000 1000) (w.alloc (.cells nrow 3)) := by
  obtain ⟨i0, hi, hz0, hz1, hz2⟩ := info_parts infoI
  have := run_make w 25 3 i0 _ Try.underlying25 hi hz0 .i64 .i64 1000 1000 (by omega) (by omega) (by rw [hz2]; omega) (by omega)
  rw [show (1000 : Int).toNat = 1000 from rfl, hz1, made_nrow] at this
  exact this
theorem reads_new (l : List Int) (w : World) (cs : Array Value) (hc : cs = (l.map (Value.int .i64)).toArray) (hm : l.length ≤ 1000000) : ReadsInt (w.alloc (.cells cs 3)) .i64 (some ⟨w.heap.size, 0, none⟩) l.length l := by
  refine ⟨rfl, by omega, fun _ => ⟨_, rfl, fun j hj => ?_⟩⟩
  rw [add_plain, blk_cell (blk_new w _), hc]
  simp [List.getD_eq_getElem?_getD, hj]
theorem noughts_span : ∀ n ∈ noughts, -9223372036854775808 ≤ n ∧ n ≤ 9223372036854775807 := by
  intro n hn
  have := noughts_in n hn
  unfold inB at this
  omega
set_option maxHeartbeats 8000000 in
set_option maxRecDepth 100000 in
theorem awake_any (w : World) : Calls Try.prog 12 #[] w fun e w' => e = .returned (.bool true) ∧ Below w.heap.size w w' := by
  have hmk := make1000
  have HEN := Aside0.mk (Encode_any noughts (some ⟨w.heap.size, 0, none⟩) 1000 (w.alloc (.cells nrow 3)) (reads_new noughts w nrow rfl (by rw [noughts_len]; decide)) (by rw [noughts_len]; decide) noughts_span)
  rw [enc_noughts, noughts_len] at HEN
  have HB0 := Aside0.mk ((Below.refl w.heap.size w).alloc (Nat.le_refl _) (.cells nrow 3))
  have HSZ := Aside0.mk noughts_size
  have hsz := noughts_size
  have HDE := Aside0.mk (dec_noughts ⟨#[120]⟩)
  generalize finishS (runS noughts).e = S at HEN HSZ HDE hsz
  have HS2 : Aside0 ((S ++ (⟨#[120]⟩ : ByteArray)).size ≤ 9223372036854775807) := ⟨by
    rw [ByteArray.size_append]
    have : (⟨#[120]⟩ : ByteArray).size = 1 := rfl
    omega⟩
  have hcat : S.size + (⟨#[120]⟩ : ByteArray).size ≤ 9223372036854775807 := by
    have : (⟨#[120]⟩ : ByteArray).size = 1 := rfl
    omega
  go_enter Try.func12, Try.ntmps12
  go_wp2_with fail
  with_reducible refine HEN.out.mono ?_
  rintro e w1 ⟨rfl, hB⟩
  have HB1 := Aside0.mk (HB0.out.trans (hB.mono HB0.out.size))
  clear hB HB0 HEN hmk
  have HDA := Aside0.mk (Decode_any (S ++ (⟨#[120]⟩ : ByteArray)) HS2.out 1000 w1)
  rw [HDE.out] at HDA
  go_wp2_with fail
  with_reducible refine HDA.out.mono ?_
  rintro e w2 ⟨v, rfl, hG, hB⟩
  have HB2 := Aside0.mk (HB1.out.trans (hB.mono HB1.out.size))
  have HG := Aside0.mk hG
  clear hG hB HB1 HDA
  obtain ⟨A, c, rfl, hc, hC⟩ := HG.out.C
  rw [noughts_len] at hc hC ⊢
  have HC := Aside0.mk hC
  clear hc hC HG
  go_wp2_with fail
  with_reducible refine (Fold_any (-2) (by decide) (by decide) w2).mono ?_
  rw [show foldM (-2) = 3 by decide +kernel]
  rintro e w3 ⟨rfl, hd3⟩
  go_wp2_with fail
  with_reducible refine (Unfold_any 4 (by decide) (by decide) w3).mono ?_
  rw [show unfoldM 4 = 2 by decide +kernel]
  rintro e w4 ⟨rfl, hd4⟩
  have HB4 : Aside0 (Below w.heap.size w w4) := ⟨(HB2.out.trans (hd3.below.mono HB2.out.size)).trans (hd4.below.mono (Nat.le_trans HB2.out.size hd3.below.size))⟩
  have hC4 : Kd.C (Kd.int .i64) w4 A 1000 noughts := Kd.C_below (Kd.C_below HC.out hd3.below) hd4.below
  obtain ⟨ad, rfl, hx⟩ := (Kd.reads_of_C (d := (0 : Int)) (enc := Value.int .i64) hC4).at_ 999 (by decide) (by decide)
  have hz : rdOf 0 noughts 999 = 0 := by simp [rdOf, noughts]
  rw [hz, show (999 : Int).toNat = 999 from rfl] at hx
  clear hd3 hd4 HB2 HC hC4 hz
  have hx2 : w4.cell? { block := ad.block, off := ad.off + 999 } = some (.int .i64 0) := hx
  clear hx
  go_wp2
  go_ret
  exact ⟨rfl, HB4.out⟩
end Go.Proofs.Ytoologbaoifheaa.Hand
/- Contracts of layer 19, proved by hand: ModelFolds, ModelBack, ModelHeads. -/
namespace Go.Proofs.Ytoologbaoifheaa.Hand
open Go.RowKit Go.Proofs.Ytoologbaoifheaa.Q Go.Proofs.Ytoologbaoifheaa.Math Go.Proofs.YtoologbaoifheaaW.PrintWords Go.Proofs.YtoologbaoifheaaW.PrintLast Go.Proofs.YtoologbaoifheaaW.PrintMore
set_option linter.unusedVariables false
set_option linter.unusedSimpArgs false
attribute [local go_sem] max2_int min2_int max_two min_two

theorem ints_loop (a : List Int) (h : a.length < 9223372036854775807) : ∀ d i : Nat, i + d = a.length → lacquerref05_Ints.l0 (d + 1) a a (i : Int) = some true
  | 0, i, e => by
    rw [lacquerref05_Ints.l0.eq_2]
    simp only [show ¬ ((i : Int) < (a.length : Int)) by omega, if_false]
  | d + 1, i, e => by
    rw [lacquerref05_Ints.l0.eq_2]
    simp only [show ((i : Int) < (a.length : Int)) by omega, show (0 : Int) ≤ (i : Int) by omega, if_true, wrap_id ((i : Int) + 1) (by omega) (by omega)]
    exact ints_loop a h d (i + 1) (by omega)
theorem Ints_same (l : List Int) (hl : l.length < 9223372036854775807) (A : Option Addr) (c : Nat) (B : Option Addr) (d : Nat) (w : World) (hA : Kd.C (Kd.int .i64) w A l.length l) (hc : l.length ≤ c) (hB : Kd.C (Kd.int .i64) w B l.length l) (hd : l.length ≤ d) :
    Calls Try.prog 17 #[.slice A l.length c, .slice B l.length d] w fun e w' => e = .returned (.bool true) ∧ Drawn0 w w' := by
  refine lacquerref05_Ints.calls (l.length + 1) A c l B d l true w hA hc hB hd ?_
  unfold lacquerref05_Ints.f
  rw [if_pos rfl]
  exact ints_loop l hl l.length 0 (by omega)
def tab (n : Nat) (f : Nat → Int) : List Int := (List.range n).map f
theorem tab_length (n : Nat) (f : Nat → Int) : (tab n f).length = n := by simp [tab]
theorem tab_get (n : Nat) (f : Nat → Int) (j : Nat) (h : j < n) : (tab n f).getD j 0 = f j := by simp [tab, List.getD_eq_getElem?_getD, h]
theorem and1u (x : Int) : Go.bits .and .u64 x 1 = x % 2 := by
  show IntKind.u64.wrap ((BitVec.ofInt 64 x &&& BitVec.ofInt 64 1).toNat : Int) = x % 2
  rw [show BitVec.ofInt 64 1 = 1#64 from rfl, BitVec.toNat_and, BitVec.toNat_ofInt, show (1#64).toNat = 1 from rfl, Nat.and_one_is_mod, u64_wrap]
  omega
theorem runfoldM_eq (n : Int) (h0 : -9223372036854775808 ≤ n) (h1 : n ≤ 9223372036854775807) : lacquerref19_Unfold.f n = some (unfoldM n) := by
  unfold lacquerref19_Unfold.f unfoldM
  rw [and1u, u64_wrap]
  unfold wrap64
  by_cases h : n % 2 = 0
  · rw [if_pos (by omega), if_pos h]
    congr 1
    omega
  · rw [if_neg (by omega), if_neg h]
    congr 1
    omega
/-- A slice that came in, as a list. -/
theorem came_list {w : World} {A : Option Addr} {n : Nat} {V : Nat → Int} (hn : n * 8 ≤ 140737488351232) (F : ∀ j, j < n → ∃ ad, A = some ad ∧ w.cell? (ad.add j) = some (.int .i64 (V j)) ∧ -9223372036854775808 ≤ V j ∧ V j ≤ 9223372036854775807) :
    ∃ l : List Int, l.length = n ∧ Kd.C (Kd.int .i64) w A l.length l ∧ ∀ x ∈ l, -9223372036854775808 ≤ x ∧ x ≤ 9223372036854775807 := by
  refine ⟨tab n V, tab_length n V, ?_, ?_⟩
  · refine Kd.C_of_reads (d := (0 : Int)) (enc := Value.int .i64) ⟨rfl, by rw [tab_length]; omega, fun h => ?_⟩
    rw [tab_length] at h
    obtain ⟨ad, e, _⟩ := F 0 h
    refine ⟨ad, e, fun j hj => ?_⟩
    rw [tab_length] at hj
    obtain ⟨ad2, e2, c2, _⟩ := F j hj
    rw [e] at e2
    injection e2 with e2
    subst e2
    rw [c2, tab_get n V j hj]
  · intro x hx
    obtain ⟨j, hj, rfl⟩ := List.mem_map.1 hx
    obtain ⟨_, _, _, h⟩ := F j (List.mem_range.1 hj)
    exact h
set_option maxHeartbeats 8000000 in
set_option maxRecDepth 100000 in
theorem Folds_any (n : Int) (h0 : -9223372036854775808 ≤ n) (h1 : n ≤ 9223372036854775807) (w : World) : Calls Try.prog 3 #[.int .i64 n] w fun e w' => e = .returned (.bool true) ∧ Below w.heap.size w w' := by
  have hfi := wrap64_in (2 * n)
  have hf : -9223372036854775808 ≤ foldM n ∧ foldM n ≤ 9223372036854775807 := by
    unfold foldM
    split <;> omega
  have hu : -9223372036854775808 ≤ unfoldM n ∧ unfoldM n ≤ 9223372036854775807 := by
    unfold unfoldM
    split <;> omega
  obtain ⟨b1, b2⟩ := fold_back n h0 h1
  have c1 := fun W => Fold_any n h0 h1 W
  have c2 := fun W => lacquerref19_Fold.calls n _ W (rfoldM_eq n h0 h1)
  have c3 := fun W => Unfold_any n h0 h1 W
  have c4 := fun W => lacquerref19_Unfold.calls n _ W (runfoldM_eq n h0 h1)
  have c5 := fun W => Unfold_any (foldM n) hf.1 hf.2 W
  have c6 := fun W => Fold_any (unfoldM n) hu.1 hu.2 W
  rw [b1] at c5
  rw [b2] at c6
  have C1 := Aside0.mk c1
  have C2 := Aside0.mk c2
  have C3 := Aside0.mk c3
  have C4 := Aside0.mk c4
  have C5 := Aside0.mk c5
  have C6 := Aside0.mk c6
  clear hf hu b1 b2 c1 c2 c3 c4 c5 c6 hfi
  generalize foldM n = f at C1 C2 C5
  generalize unfoldM n = u at C3 C4 C6
  go_enter Try.func3, Try.ntmps3
  go_wp2_with fail
  with_reducible refine (C1.out _).mono ?_
  rintro e w1 ⟨rfl, hd⟩
  have HB1 : Aside0 (Below w.heap.size w w1) := ⟨hd.below⟩
  clear hd
  go_wp2_with fail
  with_reducible refine (C2.out _).mono ?_
  rintro e w2 ⟨rfl, hd⟩
  have HB2 : Aside0 (Below w.heap.size w w2) := ⟨HB1.out.trans (hd.below.mono HB1.out.size)⟩
  clear hd HB1
  go_wp2_with fail
  with_reducible refine (C3.out _).mono ?_
  rintro e w3 ⟨rfl, hd⟩
  have HB3 : Aside0 (Below w.heap.size w w3) := ⟨HB2.out.trans (hd.below.mono HB2.out.size)⟩
  clear hd HB2
  go_wp2_with fail
  with_reducible refine (C4.out _).mono ?_
  rintro e w4 ⟨rfl, hd⟩
  have HB4 : Aside0 (Below w.heap.size w w4) := ⟨HB3.out.trans (hd.below.mono HB3.out.size)⟩
  clear hd HB3
  go_wp2_with fail
  with_reducible refine (C1.out _).mono ?_
  rintro e w5 ⟨rfl, hd⟩
  have HB5 : Aside0 (Below w.heap.size w w5) := ⟨HB4.out.trans (hd.below.mono HB4.out.size)⟩
  clear hd HB4
  go_wp2_with fail
  with_reducible refine (C5.out _).mono ?_
  rintro e w6 ⟨rfl, hd⟩
  have HB6 : Aside0 (Below w.heap.size w w6) := ⟨HB5.out.trans (hd.below.mono HB5.out.size)⟩
  clear hd HB5
  go_wp2_with fail
  with_reducible refine (C3.out _).mono ?_
  rintro e w7 ⟨rfl, hd⟩
  have HB7 : Aside0 (Below w.heap.size w w7) := ⟨HB6.out.trans (hd.below.mono HB6.out.size)⟩
  clear hd HB6
  go_wp2_with fail
  with_reducible refine (C6.out _).mono ?_
  rintro e w8 ⟨rfl, hd⟩
  have HB8 : Aside0 (Below w.heap.size w w8) := ⟨HB7.out.trans (hd.below.mono HB7.out.size)⟩
  clear hd HB7
  go_wp2_with fail
  with_reducible refine (awake_any _).mono ?_
  rintro e w9 ⟨rfl, hB⟩
  have HB9 := Aside0.mk (HB8.out.trans (hB.mono HB8.out.size))
  clear hB
  go_wp2
  go_ret
  exact ⟨rfl, HB9.out⟩
theorem enc_no (l : List Int) (h : ¬ ∀ n ∈ l, inB n) : encF l = (⟨#[]⟩, 1) := by unfold encF; rw [if_neg h]
theorem enc_yes (l : List Int) (h : ∀ n ∈ l, inB n) : encF l = (finishS (runS l).e, 0) := by unfold encF; rw [if_pos h]
theorem enc_most (l : List Int) (h : ∀ n ∈ l, inB n) (hl : l.length ≤ 3000) : (finishS (runS l).e).size ≤ 1000000 := by
  rw [enc_size l h]
  have := (run_ok l h).size
  omega
set_option maxHeartbeats 8000000 in
set_option maxRecDepth 100000 in
theorem Back_any (l : List Int) (A : Option Addr) (c : Nat) (behind : ByteArray) (w : World) (hA : Kd.C (Kd.int .i64) w A l.length l) (hc : l.length ≤ c) (hin : ∀ n ∈ l, -9223372036854775808 ≤ n ∧ n ≤ 9223372036854775807) (hb : behind.size ≤ 140737488351232) :
    Calls Try.prog 6 #[.slice A l.length c, .string behind] w fun e w' => e = .returned (.bool true) ∧ Below w.heap.size w w' := by
  by_cases h3 : (3000 : Int) < (l.length : Int)
  · go_enter Try.func6, Try.ntmps6
    go_wp2_with fail
    with_reducible refine (awake_any _).mono ?_
    rintro e w1 ⟨rfl, hB⟩
    have HB1 := Aside0.mk hB
    clear hB
    go_wp2
    go_ret
    exact ⟨rfl, HB1.out⟩
  · have HEN := Aside0.mk (Encode_any l A c w (Kd.reads_of_C (d := (0 : Int)) (enc := Value.int .i64) hA) (by omega) hin)
    have HA := Aside0.mk hA
    by_cases ha : ∀ n ∈ l, inB n
    · have hmost := enc_most l ha (by omega)
      have hsz := enc_size l ha
      have hdb := (dec_back l [] (by rw [List.append_nil]; exact ha) (by omega) behind).1
      rw [List.append_nil, ← hsz] at hdb
      rw [enc_yes l ha] at HEN
      have HDB := Aside0.mk hdb
      clear ha hsz hdb hA hin
      generalize finishS (runS l).e = S at HEN hmost HDB
      have hcat : S.size + behind.size ≤ 9223372036854775807 := by omega
      have HS2 : Aside0 ((S ++ behind).size ≤ 9223372036854775807) := ⟨by rw [ByteArray.size_append]; omega⟩
      go_enter Try.func6, Try.ntmps6
      go_wp2_with fail
      with_reducible refine HEN.out.mono ?_
      rintro e w1 ⟨rfl, hB⟩
      have HB1 := Aside0.mk hB
      have HA1 := Aside0.mk (Kd.C_below HA.out hB)
      clear hB HEN HA
      have HDA := Aside0.mk (Decode_any (S ++ behind) HS2.out (l.length : Nat) w1)
      rw [HDB.out] at HDA
      go_wp2_with fail
      with_reducible refine HDA.out.mono ?_
      rintro e w2 ⟨v, rfl, hG, hB⟩
      have HB2 := Aside0.mk (HB1.out.trans (hB.mono HB1.out.size))
      have HA2 := Aside0.mk (Kd.C_below HA1.out hB)
      obtain ⟨A2, c2, rfl, hc2, hC2⟩ := Got.C hG
      have HI := Aside0.mk (Ints_same l (by omega) A c A2 c2 w2 HA2.out hc hC2 hc2)
      clear hG hB hC2 HB1 HA1 HA2 HDA
      go_wp2_with fail
      with_reducible refine HI.out.mono ?_
      rintro e w3 ⟨rfl, hd⟩
      have HB3 := Aside0.mk (HB2.out.trans (hd.below.mono HB2.out.size))
      clear hd HB2 HI
      go_wp2_with fail
      with_reducible refine (awake_any _).mono ?_
      rintro e w4 ⟨rfl, hB⟩
      have HB4 := Aside0.mk (HB3.out.trans (hB.mono HB3.out.size))
      clear hB HB3
      go_wp2
      go_ret
      exact ⟨rfl, HB4.out⟩
    · rw [enc_no l ha] at HEN
      clear ha hA hin
      go_enter Try.func6, Try.ntmps6
      go_wp2_with fail
      with_reducible refine HEN.out.mono ?_
      rintro e w1 ⟨rfl, hB⟩
      have HB1 := Aside0.mk hB
      clear hB HEN HA
      go_wp2_with fail
      with_reducible refine (awake_any _).mono ?_
      rintro e w4 ⟨rfl, hB⟩
      have HB4 := Aside0.mk (HB1.out.trans (hB.mono HB1.out.size))
      clear hB HB1
      go_wp2
      go_ret
      exact ⟨rfl, HB4.out⟩
theorem Back_came (A : Option Addr) (n c : Nat) (V : Nat → Int) (behind : ByteArray) (w : World) (hc : n ≤ c) (hn : n * 8 ≤ 140737488351232) (hb : behind.size ≤ 140737488351232)
    (F : ∀ j, j < n → ∃ ad, A = some ad ∧ w.cell? (ad.add j) = some (.int .i64 (V j)) ∧ -9223372036854775808 ≤ V j ∧ V j ≤ 9223372036854775807) :
    Calls Try.prog 6 #[.slice A n c, .string behind] w fun e w' => e = .returned (.bool true) ∧ Below w.heap.size w w' := by
  obtain ⟨a, rfl, ha, ia⟩ := came_list hn F
  exact Back_any a A c behind w ha hc ia hb
set_option maxHeartbeats 8000000 in
set_option maxRecDepth 100000 in
theorem Heads_any (l : List Int) (A : Option Addr) (c : Nat) (k : Int) (w : World) (hA : Kd.C (Kd.int .i64) w A l.length l) (hc : l.length ≤ c) (hin : ∀ n ∈ l, -9223372036854775808 ≤ n ∧ n ≤ 9223372036854775807) :
    Calls Try.prog 7 #[.slice A l.length c, .int .i64 k] w fun e w' => e = .returned (.bool true) ∧ Below w.heap.size w w' := by
  by_cases h3 : (3000 : Int) < (l.length : Int)
  · go_enter Try.func7, Try.ntmps7
    go_wp2_with fail
    with_reducible refine (awake_any _).mono ?_
    rintro e w1 ⟨rfl, hB⟩
    have HB1 := Aside0.mk hB
    clear hB
    go_wp2
    go_ret
    exact ⟨rfl, HB1.out⟩
  · have HEN := Aside0.mk (Encode_any l A c w (Kd.reads_of_C (d := (0 : Int)) (enc := Value.int .i64) hA) (by omega) hin)
    have HA := Aside0.mk hA
    by_cases ha : ∀ n ∈ l, inB n
    · have hmost := enc_most l ha (by omega)
      have hsz := enc_size l ha
      obtain ⟨j1, hj1⟩ : ∃ j1 : Int, (if (l.length : Int) < k then (l.length : Int) else k) = j1 := ⟨_, rfl⟩
      obtain ⟨j, hj⟩ : ∃ j : Nat, (if 0 < j1 then j1 else 0) = (j : Int) := ⟨(if 0 < j1 then j1 else 0).toNat, by split <;> omega⟩
      have hjn : j ≤ l.length := by split at hj <;> split at hj1 <;> omega
      have hlj : (l.take j).length = j := by rw [List.length_take]; omega
      obtain ⟨hdb, hds⟩ := dec_back (l.take j) (l.drop j) (by rw [List.take_append_drop]; exact ha) (by omega) ⟨#[]⟩
      rw [List.take_append_drop, hlj, show ∀ x : ByteArray, x ++ (⟨#[]⟩ : ByteArray) = x from fun x => by apply ByteArray.ext; simp] at hdb
      rw [List.take_append_drop] at hds
      rw [enc_yes l ha] at HEN
      have HDB := Aside0.mk hdb
      obtain ⟨q, hq⟩ : ∃ q, sizeE (runS (l.take j)).e + 4 = q := ⟨_, rfl⟩
      rw [hq] at HDB
      have hqs : q ≤ (finishS (runS l).e).size := by omega
      clear ha hsz hdb hA hin hq hds
      generalize finishS (runS l).e = S at HEN hmost HDB hqs
      have HS2 : Aside0 (S.size ≤ 9223372036854775807) := ⟨by omega⟩
      have j0 : (0 : Int) ≤ (j : Int) := by omega
      have jc : (j : Int) ≤ (c : Int) := by omega
      have jc2 : ¬ (c : Int) < (j : Int) := by omega
      have qs : (q : Int) ≤ (S.size : Int) := by omega
      have HLJ := Aside0.mk hlj
      clear hlj
      go_enter Try.func7, Try.ntmps7
      go_wp2_with fail
      with_reducible refine HEN.out.mono ?_
      rintro e w1 ⟨rfl, hB⟩
      have HB1 := Aside0.mk hB
      have HA1 := Aside0.mk (Kd.C_below HA.out hB)
      clear hB HEN HA
      have HDA := Aside0.mk (Decode_any S HS2.out (j : Nat) w1)
      rw [HDB.out] at HDA
      go_wp2_with fail
      with_reducible refine HDA.out.mono ?_
      rintro e w2 ⟨v, rfl, hG, hB⟩
      have HB2 := Aside0.mk (HB1.out.trans (hB.mono HB1.out.size))
      have HA2 := Aside0.mk (Kd.C_below HA1.out hB)
      obtain ⟨A2, c2, rfl, hc2, hC2⟩ := Got.C hG
      have HI := Aside0.mk (Ints_same (l.take j) (by rw [HLJ.out]; omega) A2 c2 A c w2 hC2 hc2 (Kd.C_take HA2.out hjn) (by rw [HLJ.out]; omega))
      rw [HLJ.out] at HI hc2 ⊢
      clear hG hB hC2 HB1 HA1 HA2 HDA
      go_wp2_with fail
      with_reducible refine HI.out.mono ?_
      rintro e w3 ⟨rfl, hd⟩
      have HB3 := Aside0.mk (HB2.out.trans (hd.below.mono HB2.out.size))
      clear hd HB2 HI
      go_wp2_with fail
      with_reducible refine (awake_any _).mono ?_
      rintro e w4 ⟨rfl, hB⟩
      have HB4 := Aside0.mk (HB3.out.trans (hB.mono HB3.out.size))
      clear hB HB3
      go_wp2
      go_ret
      exact ⟨rfl, HB4.out⟩
    · rw [enc_no l ha] at HEN
      clear ha hA hin
      go_enter Try.func7, Try.ntmps7
      go_wp2_with fail
      with_reducible refine HEN.out.mono ?_
      rintro e w1 ⟨rfl, hB⟩
      have HB1 := Aside0.mk hB
      clear hB HEN HA
      go_wp2_with fail
      with_reducible refine (awake_any _).mono ?_
      rintro e w4 ⟨rfl, hB⟩
      have HB4 := Aside0.mk (HB1.out.trans (hB.mono HB1.out.size))
      clear hB HB1
      go_wp2
      go_ret
      exact ⟨rfl, HB4.out⟩
theorem Heads_came (A : Option Addr) (n c : Nat) (V : Nat → Int) (k : Int) (w : World) (hc : n ≤ c) (hn : n * 8 ≤ 140737488351232)
    (F : ∀ j, j < n → ∃ ad, A = some ad ∧ w.cell? (ad.add j) = some (.int .i64 (V j)) ∧ -9223372036854775808 ≤ V j ∧ V j ≤ 9223372036854775807) :
    Calls Try.prog 7 #[.slice A n c, .int .i64 k] w fun e w' => e = .returned (.bool true) ∧ Below w.heap.size w w' := by
  obtain ⟨a, rfl, ha, ia⟩ := came_list hn F
  exact Heads_any a A c k w ha hc ia
end Go.Proofs.Ytoologbaoifheaa.Hand
/- Contracts of layer 19, proved by hand: the reference's counts. -/
namespace Go.Proofs.Ytoologbaoifheaa.Hand
open Go.RowKit Go.Proofs.Ytoologbaoifheaa.Q Go.Proofs.Ytoologbaoifheaa.Math Go.Proofs.YtoologbaoifheaaW.PrintWords Go.Proofs.YtoologbaoifheaaW.PrintLast Go.Proofs.YtoologbaoifheaaW.PrintMore
set_option linter.unusedVariables false
set_option linter.unusedSimpArgs false

/-- A row of whole numbers of one's own. -/
def IntsAt (w : World) (B : Nat) (v : Value) (xs : List Int) : Prop := Kd.R (Kd.int .i64) 3 w B (fun k => v.ownBlock = some k) v xs
theorem int_E : ∀ q, q ∈ 3 :: (Kd.int .i64).E → q = 3 := by
  intro q hq
  simpa [Kd.int, Kd.scalar] using hq
theorem IntsAt.of {w : World} {B : Nat} {ok : Nat → Prop} {v : Value} {xs : List Int} (h : Kd.R (Kd.int .i64) 3 w B ok v xs) : IntsAt w B v xs := by
  obtain ⟨h0, inner, hown, hr⟩ := h
  exact ⟨fun k hk => hk, inner, hown, hr.imp_ (fun _ _ hm => hm)⟩
theorem IntsAt.all {w : World} {B : Nat} {v : Value} {xs : List Int} (h : IntsAt w B v xs) : Kd.R (Kd.int .i64) 3 w B (fun _ => True) v xs := Kd.R_mono h (fun _ _ => trivial)
theorem IntsAt.nil (w : World) (B : Nat) : IntsAt w B (.slice none 0 0) [] := Kd.R_nil _ _ _ _ _
theorem IntsAt.below {w w' : World} {B : Nat} {v : Value} {xs : List Int} (h : IntsAt w B v xs) (hb : Below w.heap.size w w') : IntsAt w' B v xs := Kd.R_below h hb
theorem IntsAt.set {w : World} {B : Nat} {v : Value} {xs : List Int} (h : IntsAt w B v xs) {g t : Nat} {cells : Array Value} (hb : w.heap[g]? = some (.cells cells t (0, 0))) (ht : t ≠ 3) (j : Nat) (u : Value) : IntsAt (w.setCell ⟨g, j, none⟩ u) B v xs :=
  .of (Kd.R_set h.all hb (fun q hq => by rw [int_E q hq]; exact fun e => ht e.symm) j u)
theorem IntsAt.lt {w : World} {B : Nat} {v : Value} {xs : List Int} (h : IntsAt w B v xs) : ∀ k, v.ownBlock = some k → k < w.heap.size := fun k hk => Kd.R_lt h k hk
theorem IntsAt.C {w : World} {B : Nat} {v : Value} {xs : List Int} (h : IntsAt w B v xs) : ∃ A c, v = .slice A xs.length c ∧ xs.length ≤ c ∧ Kd.C (Kd.int .i64) w A xs.length xs := Kd.R_reads h
/-- Number i of a row. -/
theorem IntsAt.place {w : World} {B : Nat} {v : Value} {xs : List Int} (h : IntsAt w B v xs) (i : Nat) (hi : i < xs.length) :
    ∃ b c, v = .slice (some ⟨b, 0, none⟩) xs.length c ∧ xs.length ≤ c ∧ (∀ j, j < xs.length → w.cell? ⟨b, j, none⟩ = some (.int .i64 (xs.getD j 0))) ∧ (∀ j, w.frozen? ⟨b, j, none⟩ = false) ∧ B ≤ b ∧ b < w.heap.size := by
  obtain ⟨inner, hown⟩ := Kd.R_own h
  obtain ⟨A, c, e, hlc, hC⟩ := Kd.R_reads h
  have hr := Kd.reads_of_C (d := (0 : Int)) (enc := Value.int .i64) hC
  rcases hown.2 with ⟨e2, h0⟩ | ⟨b, cap, cur, e2, hb, hblk, _⟩
  · omega
  · rw [e2] at e
    injection e with e3 _ e4
    subst e3 e4
    refine ⟨b, cap, e2, hlc, fun j hj => ?_, fun j => blk_frozen hblk j, hb, blk_lt hblk⟩
    obtain ⟨ad, e5, hcell⟩ := ReadsOf.at_ hr (j : Int) (by omega) (by omega)
    injection e5 with e5
    subst e5
    have : (⟨b, 0, none⟩ : Addr).add (j : Int).toNat = ⟨b, j, none⟩ := by rw [add_plain]; simp
    rw [this] at hcell
    simpa [rdOf] using hcell
/-- A number of a row is turned. -/
theorem IntsAt.store {w : World} {B b n c : Nat} {xs : List Int} (h : IntsAt w B (.slice (some ⟨b, 0, none⟩) n c) xs) (i : Nat) (y : Int) :
    IntsAt (w.setCell ⟨b, i, none⟩ (.int .i64 y)) B (.slice (some ⟨b, 0, none⟩) n c) (xs.set i y) := by
  have := Kd.R_putn (enc := Value.int .i64) (h1 := fun _ => rfl) h (i : Int) y
  rw [Int.toNat_natCast] at this
  exact this
/-- The reference's counts in block g; the row of its numbers is v. -/
def RCAt (w : World) (B g : Nat) (v : Value) (c : List Int) (s : Int) : Prop := w.heap[g]? = some (.cells #[v, .int .i64 s] 63 (0, 0)) ∧ IntsAt w B v c ∧ B ≤ g
theorem RCAt.below {w w' : World} {B g : Nat} {v : Value} {c : List Int} {s : Int} (h : RCAt w B g v c s) (hb : Below w.heap.size w w') : RCAt w' B g v c s := ⟨blk_below h.1 hb, h.2.1.below hb, h.2.2⟩
theorem RCAt.lt {w : World} {B g : Nat} {v : Value} {c : List Int} {s : Int} (h : RCAt w B g v c s) : g < w.heap.size := blk_lt h.1
theorem RCAt.cell {w : World} {B g : Nat} {v : Value} {c : List Int} {s : Int} (h : RCAt w B g v c s) (j : Nat) : w.cell? ⟨g, j, none⟩ = (#[v, Value.int .i64 s])[j]? := blk_cell h.1 j
theorem RCAt.setSum {w : World} {B g : Nat} {v : Value} {c : List Int} {s : Int} (h : RCAt w B g v c s) (y : Int) : RCAt (w.setCell ⟨g, 1, none⟩ (.int .i64 y)) B g v c y :=
  ⟨blk_put h.1 1 _ rfl, h.2.1.set h.1 (by decide) 1 _, h.2.2⟩
theorem RCAt.put {w : World} {B g : Nat} {v v1 : Value} {s : Int} {xs : List Int} (hb : w.heap[g]? = some (.cells #[v, .int .i64 s] 63 (0, 0))) (hr : IntsAt w B v1 xs) (hB : B ≤ g) : RCAt (w.setCell ⟨g, 0, none⟩ v1) B g v1 xs s :=
  ⟨blk_put hb 0 v1 rfl, hr.set hb (by decide) 0 v1, hB⟩
theorem RCAt.grown {W w1 : World} {B g : Nat} {v : Value} {c : List Int} {s : Int} (h : RCAt W B g v c s) (hg : W.grownBy w1 v.ownBlock) : w1.heap[g]? = some (.cells #[v, .int .i64 s] 63 (0, 0)) := by
  rw [hg.block g h.lt (fun e => ?_)]
  · exact h.1
  · exact (Kd.R_ne h.2.1.all h.1 (by decide)) e
/-- A number of the row is turned: the block of the state stays. -/
theorem RCAt.store {w : World} {B g b n cap : Nat} {c : List Int} {s : Int} (h : RCAt w B g (.slice (some ⟨b, 0, none⟩) n cap) c s) (i : Nat) (y : Int) : RCAt (w.setCell ⟨b, i, none⟩ (.int .i64 y)) B g (.slice (some ⟨b, 0, none⟩) n cap) (c.set i y) s := by
  have hne : g ≠ b := fun e => (Kd.R_ne h.2.1.all h.1 (by decide)) (by rw [e]; rfl)
  exact ⟨blk_far (p := ⟨b, i, none⟩) h.1 hne _, h.2.1.store i y, h.2.2⟩
theorem Moved.row {B g b n c : Nat} {w w1 : World} {v : Value} (h : Moved B g w v w1 v) (hv : v = .slice (some ⟨b, 0, none⟩) n c) (hB : B ≤ b) (j : Nat) (u : Value) : Moved B g w v (w1.setCell ⟨b, j, none⟩ u) v :=
  ⟨h.below.setCell (p := ⟨b, j, none⟩) hB u, h.kept.setCell (p := ⟨b, j, none⟩) (.inl (.inr (by rw [hv]; rfl))) u, h.own⟩
section
variable {ops : Array Oper} {o : Oper} {a : Act} {Q : Exit → Act → World → Prop} {rest : List Oper}
theorem app_ints {w0 W : World} {B : Nat} (s x : Operand) (y : Int) {v : Value} {xs : List Int} (hgd : o.guard = none)
    (ho : o.op = .call { callee := .builtin .append, args := #[s, x], argTypes := #[25, 25] }) (hs : a.eval s = v) (hx : a.eval x = .slice (some ⟨W.heap.size, 0, none⟩) 1 1)
    (HO : IntsAt W B v xs) (HB : Below B w0 W) (hB : B ≤ W.heap.size) (hl : xs.length < 17592186044415)
    (h : ∀ v1 w1, Aside0 (IntsAt w1 B v1 (xs ++ [y])) → Aside0 (Below B w0 w1) → Aside0 (W.grownBy w1 v.ownBlock) → Aside0 (v1.ownBlock = v.ownBlock ∨ ∃ b, v1.ownBlock = some b ∧ W.heap.size ≤ b) → wpList Try.prog ops Q rest (a.put o.dst v1) w1) :
    wpList Try.prog ops Q (o :: rest) a (W.alloc (.cells #[.int .i64 y] 3)) :=
  Kd.R_append (Kd.int .i64) (w0 := w0) B hgd s x 25 3 (.int .i64 0) 8 ho Try.underlying25 infoI rfl (by decide) (by omega) v xs y [.int .i64 y] (fun _ => True) (fun _ => False) hs hx rfl (fun _ hk => hk.elim)
    (fun _ _ => trivial) HO.all HB hB (by omega) (fun v1 w1 h1 h2 h3 h4 => h v1 w1 ⟨.of h1⟩ ⟨h2⟩ ⟨h3⟩ ⟨h4⟩)
end
theorem rcnew_at (w : World) : RCAt (w.alloc (.cells #[.slice none 0 0, .int .i64 42] 63)) w.heap.size w.heap.size (.slice none 0 0) [] 42 := ⟨blk_new w _, IntsAt.nil _ _, Nat.le_refl _⟩
set_option maxHeartbeats 4000000 in
set_option maxRecDepth 100000 in
theorem rbegin_any (w : World) :
    Calls Try.prog 27 #[] w fun e w' => e = .returned (.pointer (some ⟨w.heap.size, 0, none⟩)) ∧ ∃ v, RCAt w' w.heap.size w.heap.size v ones 42 ∧ Below w.heap.size w w' := by
  have hup := Try.underlying59
  have H0 := Aside0.mk (rcnew_at w)
  have HB0 : Aside0 (Below w.heap.size w (w.alloc (.cells #[.slice none 0 0, .int .i64 42] 63))) := ⟨below_alloc (Below.refl _ _) _⟩
  go_enter Try.func27, Try.ntmps27
  go_wp2
  generalize w.alloc (.cells #[.slice none 0 0, .int .i64 42] 63) = w1 at H0 HB0 ⊢
  obtain ⟨g, hg⟩ : ∃ g, w.heap.size = g := ⟨_, rfl⟩
  have HG := Aside0.mk hg
  rw [hg] at H0 HB0 ⊢
  clear hg
  go_loopw [2] (fun iv wr => ∃ (i : Nat) (v : Value), i ≤ 42 ∧ iv = .int .i64 i ∧ Aside0 (RCAt wr g g v (List.replicate i 1) 42) ∧ Aside0 (Below g w wr)) (fun iv _ => 42 - (intOf iv).toNat)
  case atStart => exact ⟨0, _, by omega, rfl, H0, HB0⟩
  case round =>
    clear H0 HB0
    obtain ⟨i, v, hi, rfl, HC, HB⟩ := hrel
    by_cases hlt : i < 42
    · have i1 : (i : Int) < 42 := by omega
      have c0 : wr.cell? ⟨g, 0, none⟩ = some v := HC.out.cell 0
      have hgl : g ≤ wr.heap.size := Nat.le_of_lt HC.out.lt
      have hlen : (List.replicate i (1 : Int)).length < 17592186044415 := by rw [List.length_replicate]; omega
      go_wp2_with (at_builtin; (with_reducible refine app_ints (w0 := w) (B := g) (v := v) (xs := List.replicate i 1) (.tmp 13) (.tmp 14) 1 ?_ ?_ ?_ ?_ ?_ ?_ ?_ ?_ ?_); rfl; rfl; rfl; rfl; exact HC.out.2.1; exact HB.out; exact hgl; exact hlen; intro v1 w4 HO4 HB4 HG4 HV4; have hb4 := HC.out.grown HG4.out; have c04 : w4.cell? ⟨g, 0, none⟩ = some v := blk_cell hb4 0; have f04 := blk_frozen hb4 0; obtain ⟨A1, k1, e1, _, _⟩ := HO4.out.C; rw [List.length_append, List.length_replicate] at e1; subst e1)
      go_roundw
      case rel => exact ⟨i + 1, _, by omega, by go_num, ⟨by rw [List.replicate_succ']; exact RCAt.put hb4 HO4.out (Nat.le_refl _)⟩, ⟨HB4.out.setCell (p := ⟨g, 0, none⟩) (Nat.le_refl _) _⟩⟩
      case measure => simp [intOf]; omega
    · have hi2 : i = 42 := by omega
      have n1 : ¬ (i : Int) < 42 := by omega
      rw [hi2] at HC
      clear hi2
      go_wp2
      go_ret
      rw [HG.out]
      exact ⟨rfl, ⟨v, HC.out⟩, HB.out⟩
set_option maxHeartbeats 4000000 in
set_option maxRecDepth 100000 in
theorem rbelow_any (c : List Int) (s : Int) (hs : Small c) (hl : c.length = 42) (k : Nat) (hk : k ≤ 42) (B g : Nat) (v : Value) (w : World) (h : RCAt w B g v c s) :
    Calls Try.prog 30 #[.pointer (some ⟨g, 0, none⟩), .int .i64 k] w fun e w' => e = .returned (.int .i64 (belowC c k)) ∧ w = w' := by
  have hup := Try.underlying59
  have c0 : w.cell? ⟨g, 0, none⟩ = some v := h.cell 0
  obtain ⟨b, cap, rfl, hcap, hcl, hfr, hB, hbl⟩ := h.2.1.place 0 (by omega)
  rw [hl] at c0 hcap hcl
  have HCL := Aside0.mk hcl
  have HS := Aside0.mk hs
  clear h hcl hfr hs
  go_enter Try.func30, Try.ntmps30
  go_wp2
  go_loopw [5, 6] (fun nv iv wr => ∃ i : Nat, i ≤ k ∧ iv = .int .i64 i ∧ nv = .int .i64 (belowC c i) ∧ wr = w) (fun _ iv _ => k - (intOf iv).toNat)
  case atStart => exact ⟨0, Nat.zero_le _, rfl, rfl, rfl⟩
  case round =>
    obtain ⟨i, hi, rfl, rfl, rfl⟩ := hrel
    by_cases hlt : i < k
    · have i0 : (0 : Int) ≤ (i : Int) := by omega
      have i1 : (i : Int) < (k : Int) := by omega
      have i2 : (i : Int) < 42 := by omega
      have cI : wr.cell? ⟨b, i, none⟩ = some (.int .i64 (c.getD i 0)) := HCL.out i (by omega)
      have hn : belowC c (i + 1) = belowC c i + c.getD i 0 := rfl
      have hb := belowC_in c HS.out i
      have hc := HS.out i
      have e1 : IntKind.i64.wrap (belowC c i + c.getD i 0) = belowC c (i + 1) := by rw [hn, IntKind.wrap_i64]; omega
      clear hn hb hc
      generalize belowC c i = q at e1 ⊢
      obtain ⟨b2, hb2⟩ : ∃ b2, belowC c (i + 1) = b2 := ⟨_, rfl⟩
      rw [hb2] at e1
      have HB2 := Aside0.mk hb2
      clear hb2
      generalize c.getD i 0 = y at e1 cI
      go_wp2
      go_roundw
      case rel => exact ⟨i + 1, by omega, by go_num, by rw [HB2.out], by trivial⟩
      case measure => simp [intOf]; omega
    · obtain rfl : i = k := by omega
      go_wp2
      go_ret
      exact ⟨rfl, rfl⟩
end Go.Proofs.Ytoologbaoifheaa.Hand
/- Contracts of layer 19, proved by hand: the reference's classes, pieces; a class is seen. -/
namespace Go.Proofs.Ytoologbaoifheaa.Hand
open Go.RowKit Go.Proofs.Ytoologbaoifheaa.Q Go.Proofs.Ytoologbaoifheaa.Math Go.Proofs.YtoologbaoifheaaW.PrintWords Go.Proofs.YtoologbaoifheaaW.PrintLast Go.Proofs.YtoologbaoifheaaW.PrintMore
set_option linter.unusedVariables false
set_option linter.unusedSimpArgs false

theorem rclass_eq : ∀ (f u c : Nat), u < 2 ^ f → u < 2 ^ 62 → c + f ≤ 1000 → lacquerref19_class.l0 (f + 1) (u : Int) (c : Int) = some ((c + blenF f u : Nat) : Int)
  | 0, u, c, h, h2, hc => by
    have : u = 0 := by simpa using h
    subst this
    rw [lacquerref19_class.l0.eq_2, if_neg (by decide)]
    rfl
  | f + 1, u, c, h, h2, hc => by
    rw [lacquerref19_class.l0.eq_2]
    unfold blenF
    by_cases h0 : u = 0
    · subst h0
      rw [if_neg (by decide), if_pos rfl]
      rfl
    · rw [if_pos (by omega), if_neg h0, wrap_id _ (by omega) (by omega), show (u : Int) / 2 = ((u / 2 : Nat) : Int) by omega, show (c : Int) + 1 = ((c + 1 : Nat) : Int) by omega]
      rw [rclass_eq f (u / 2) (c + 1) (by rw [Nat.pow_succ] at h; omega) (by omega) (by omega)]
      congr 2
      omega
theorem RClass_any (u : Nat) (hu : u < 2 ^ 41) (w : World) : Calls Try.prog 28 #[.int .i64 u] w fun e w' => e = .returned (.int .i64 (blen u)) ∧ Drawn0 w w' := by
  refine lacquerref19_class.calls 65 u _ w ?_
  have h := rclass_eq 64 u 0 (Nat.lt_of_lt_of_le hu (by decide)) (Nat.lt_of_lt_of_le hu (by decide)) (by decide)
  rw [Nat.zero_add] at h
  exact h
/-- How the lower bits are cut. -/
def cutL (n : Nat) : List Int := (if n % 16 = 0 then [] else [((n % 16 : Nat) : Int)]) ++ List.replicate (n / 16) 16
theorem cutL_cons (n : Nat) (h : 0 < n) : cutL n = (((n - 1) % 16 + 1 : Nat) : Int) :: cutL (n - ((n - 1) % 16 + 1)) := by
  unfold cutL
  by_cases h0 : n % 16 = 0
  · obtain ⟨m, hm⟩ : ∃ m, n / 16 = m + 1 := ⟨n / 16 - 1, by omega⟩
    rw [if_pos h0, show (n - 1) % 16 + 1 = 16 by omega, if_pos (by omega), hm, show (n - 16) / 16 = m by omega, List.replicate_succ]
    rfl
  · rw [if_neg h0, show (n - 1) % 16 + 1 = n % 16 by omega, if_pos (by omega), show (n - n % 16) / 16 = n / 16 by omega]
    rfl
theorem cutL_nil (n : Nat) (h : cutL n = []) : n = 0 := by
  rcases Nat.eq_zero_or_pos n with h0 | h0
  · exact h0
  · rw [cutL_cons n h0] at h
    cases h
theorem cutL_few : ∀ n, n < 42 → (cutL n).length ≤ 3 := by decide
theorem pieces_eq : ∀ n : Nat, n < 42 → lacquerref19_pieces.f 10 ((n : Int) - 1) = some (cutL (n - 1)) := by decide +kernel
theorem RPieces_any (n : Nat) (h : n < 42) (w : World) : Calls Try.prog 31 #[.int .i64 ((n : Int) - 1)] w fun e w' => ∃ v, e = .returned v ∧ IntsAt w' w.heap.size v (cutL (n - 1)) ∧ Below w.heap.size w w' := by
  refine (lacquerref19_pieces.calls 10 _ _ w (pieces_eq n h)).mono ?_
  rintro e w' ⟨v, h1, h2, h3⟩
  exact ⟨v, h1, .of h2, h3⟩
theorem IntsAt.lower {w : World} {B B2 : Nat} {v : Value} {xs : List Int} (h : IntsAt w B v xs) (hb : B2 ≤ B) : IntsAt w B2 v xs := Kd.R_lower h hb
theorem RCAt.lower {w : World} {B B2 g : Nat} {v : Value} {c : List Int} {s : Int} (h : RCAt w B g v c s) (hb : B2 ≤ B) : RCAt w B2 g v c s := ⟨h.1, h.2.1.lower hb, Nat.le_trans hb h.2.2⟩
theorem rbelow_still (c : List Int) (s : Int) (hs : Small c) (hl : c.length = 42) (k : Nat) (hk : k ≤ 42) (B g : Nat) (v : Value) (w : World) (h : RCAt w B g v c s) :
    Calls Try.prog 30 #[.pointer (some ⟨g, 0, none⟩), .int .i64 k] w fun e w' => e = .returned (.int .i64 (belowC c k)) ∧ w' = w := (rbelow_any c s hs hl k hk B g v w h).mono fun _ _ h => ⟨h.1, h.2.symm⟩
theorem halfTo_high (c : List Int) (i : Nat) (h : c.length = 42) (hi : i < 42) : (halfTo c i).getD i 0 = c.getD i 0 := by
  unfold halfTo
  have hl2 : ((c.take i).map (fun x => (x + 1) / 2)).length = i := by rw [List.length_map, List.length_take]; omega
  rw [List.getD_eq_getElem?_getD, List.getElem?_append_right (by omega), hl2, List.getElem?_drop, show i + (i - i) = i by omega, List.getD_eq_getElem?_getD]
set_option maxHeartbeats 8000000 in
set_option maxRecDepth 100000 in
theorem grow_any (c : List Int) (s : Int) (hs : Small c) (hl : c.length = 42) (x : Nat) (hx : x < 42) (hy2 : c.getD x 0 ≤ 65504) (s0 : 0 ≤ s) (s1 : s ≤ 65536) (B g : Nat) (v : Value) (w : World) (h : RCAt w B g v c s) :
    Calls Try.prog 33 #[.pointer (some ⟨g, 0, none⟩), .int .i64 x] w fun e w' => e = .returned (.tuple #[]) ∧ RCAt w' B g v (sawC c s x).1 (sawC c s x).2 ∧ Moved B g w v w' v := by
  have hup := Try.underlying59
  have x0 : (0 : Int) ≤ (x : Int) := by omega
  have x1 : (x : Int) < 42 := by omega
  have c0 : w.cell? ⟨g, 0, none⟩ = some v := h.cell 0
  obtain ⟨b, cap, hv, hcap, hcl, hfr, hB, hbl⟩ := h.2.1.place 0 (by omega)
  rw [hl] at hv hcap hcl
  have cX : w.cell? ⟨b, x, none⟩ = some (.int .i64 (c.getD x 0)) := hcl x hx
  have fX := hfr x
  have cS : w.cell? ⟨g, 1, none⟩ = some (.int .i64 s) := h.cell 1
  have fS : w.frozen? ⟨g, 1, none⟩ = false := blk_frozen h.1 1
  have hgb : g ≠ b := fun e => (Kd.R_ne h.2.1.all h.1 (by decide)) (by rw [e, hv]; rfl)
  have hcx := hs x
  have HSW : Aside0 (sawC c s x = if s + 32 ≤ 32768 then (c.set x (c.getD x 0 + 32), s + 32) else ((c.set x (c.getD x 0 + 32)).map (fun x => (x + 1) / 2), belowC ((c.set x (c.getD x 0 + 32)).map (fun x => (x + 1) / 2)) 42)) := ⟨rfl⟩
  have HS2 := Aside0.mk (hs.set x (c.getD x 0 + 32) (by omega) (by omega))
  obtain ⟨y, hy⟩ : ∃ y, c.getD x 0 = y := ⟨_, rfl⟩
  rw [hy] at cX hcx HSW HS2 hy2
  have e1 : IntKind.i64.wrap (y + 32) = y + 32 := by rw [IntKind.wrap_i64]; omega
  have e2 : IntKind.i64.wrap (s + 32) = s + 32 := by rw [IntKind.wrap_i64]; omega
  subst hv
  have HC1 := Aside0.mk (h.store x (y + 32))
  have HM1 := Aside0.mk ((Moved.refl B g w (.slice (some ⟨b, 0, none⟩) 42 cap)).row rfl hB x (.int .i64 (y + 32)))
  have HLN : Aside0 ((c.set x (y + 32)).length = 42) := ⟨by rw [List.length_set]; exact hl⟩
  obtain ⟨d, hd⟩ : ∃ d, c.set x (y + 32) = d := ⟨_, rfl⟩
  rw [hd] at HC1 HSW HS2 HLN
  obtain ⟨r, hr⟩ : ∃ r, sawC c s x = r := ⟨_, rfl⟩
  rw [hr] at HSW ⊢
  have HB := Aside0.mk hB
  have HBG := Aside0.mk h.2.2
  clear h hs hd hcx hy hr hy2 hcl hfr hl hB
  by_cases hle : s + 32 ≤ 32768
  · have hr2 : r = (d, s + 32) := HSW.out.trans (if_pos hle)
    have HR := Aside0.mk hr2
    have hgt : ¬ 32768 < s + 32 := by omega
    clear hr2 HSW hle
    go_enter Try.func33, Try.ntmps33
    go_wp2
    refine bodyPost_end (results_none rfl _ _ _) rfl ?_
    rw [HR.out]
    exact ⟨rfl, HC1.out.setSum (s + 32), HM1.out.set HBG.out 1 _⟩
  · have hr2 : r = (d.map (fun x => (x + 1) / 2), belowC (d.map (fun x => (x + 1) / 2)) 42) := HSW.out.trans (if_neg hle)
    have HR := Aside0.mk hr2
    have hgt : 32768 < s + 32 := by omega
    have HC3 := Aside0.mk ((HC1.out.setSum (s + 32)).setSum 0)
    have HM3 := Aside0.mk ((HM1.out.set HBG.out 1 (.int .i64 (s + 32))).set HBG.out 1 (.int .i64 0))
    clear hr2 HSW hle HC1 HM1
    go_enter Try.func33, Try.ntmps33
    go_wp2
    clear c0 cX fX cS fS
    generalize ((w.setCell ⟨b, x, none⟩ (.int .i64 (y + 32))).setCell ⟨g, 1, none⟩ (.int .i64 (s + 32))).setCell ⟨g, 1, none⟩ (.int .i64 0) = w3 at HC3 HM3 ⊢
    go_loopw [4] (fun iv wr => ∃ i : Nat, i ≤ 42 ∧ iv = .int .i64 i ∧ Aside0 (RCAt wr B g (.slice (some ⟨b, 0, none⟩) 42 cap) (halfTo d i) (belowC (halfTo d i) i)) ∧ Aside0 (Moved B g w (.slice (some ⟨b, 0, none⟩) 42 cap) wr (.slice (some ⟨b, 0, none⟩) 42 cap))) (fun iv _ => 42 - (intOf iv).toNat)
    case atStart => exact ⟨0, by omega, rfl, by simpa [halfTo, belowC] using HC3, HM3⟩
    case round =>
      clear HC3 HM3
      obtain ⟨i, hi, rfl, HC, HM⟩ := hrel
      by_cases hlt : i < 42
      · have i0 : (0 : Int) ≤ (i : Int) := by omega
        have i1 : (i : Int) < 42 := by omega
        have hz := HS2.out i
        have hset := halfTo_next d i HLN.out hlt
        have hbn := below_next d i HLN.out hlt
        have hbb : 0 ≤ belowC (halfTo d i) i ∧ belowC (halfTo d i) i ≤ 65536 * i := belowC_in _ (half_small HLN.out HS2.out i (by omega)) i
        have hpl := HC.out.2.1.place 0 (by rw [halfTo_length d i HLN.out]; decide)
        rw [halfTo_length d i HLN.out] at hpl
        obtain ⟨b2, cap2, he, _, hcl, hfr, _, _⟩ := hpl
        injection he with he1 _ he2
        injection he1 with he1
        injection he1 with he1
        subst he1 he2
        have c0 : wr.cell? ⟨g, 0, none⟩ = some (.slice (some ⟨b, 0, none⟩) 42 cap) := HC.out.cell 0
        have cI : wr.cell? ⟨b, i, none⟩ = some (.int .i64 (d.getD i 0)) := by rw [hcl i hlt, halfTo_high d i HLN.out hlt]
        have fI := hfr i
        clear hcl hfr
        obtain ⟨z, hzz⟩ : ∃ z, d.getD i 0 = z := ⟨_, rfl⟩
        rw [hzz] at hz hset hbn cI
        have HZK := Aside0.mk hzz
        clear hzz
        obtain ⟨z2, hz2⟩ : ∃ z2, (z + 1) / 2 = z2 := ⟨_, rfl⟩
        rw [hz2] at hset hbn
        have HZ2K := Aside0.mk hz2
        have q1 : IntKind.i64.wrap (z + 1) = z + 1 := by rw [IntKind.wrap_i64]; omega
        have q2 : (z + 1).tdiv 2 = z2 := by rw [Int.tdiv_eq_ediv_of_nonneg (by omega)]; omega
        have q3 : IntKind.i64.wrap z2 = z2 := by rw [IntKind.wrap_i64]; omega
        have HC1 := Aside0.mk ((HC.out.below (below_drew (Below.refl _ _))).store i z2)
        rw [hset] at HC1
        have HM1 := Aside0.mk (HM.out.drew.row rfl HB.out i (.int .i64 z2))
        obtain ⟨t, ht⟩ : ∃ t, belowC (halfTo d i) i = t := ⟨_, rfl⟩
        rw [ht] at hbn hbb HC1
        have q4 : IntKind.i64.wrap (t + z2) = t + z2 := by rw [IntKind.wrap_i64]; omega
        have HBN := Aside0.mk hbn
        clear hbn hbb hset hz hz2 ht HC HM
        go_wp2
        go_still_tail 15, (by kernel_rfl)
        have cI2 : wr.drew.cell? ⟨b, i, none⟩ = some (.int .i64 z) := cI
        have fI2 : wr.drew.frozen? ⟨b, i, none⟩ = false := fI
        clear cI fI c0
        change wpList _ _ _ _ _ wr.drew
        generalize wr.drew = wz at HC1 HM1 cI2 fI2 ⊢
        go_wp2
        clear cI2 fI2
        generalize wz.setCell ⟨b, i, none⟩ (.int .i64 z2) = w8 at HC1 HM1 ⊢
        have hpl := HC1.out.2.1.place 0 (by rw [halfTo_length d (i + 1) HLN.out]; decide)
        rw [halfTo_length d (i + 1) HLN.out] at hpl
        obtain ⟨b2, cap2, he, _, hcl, hfr, _, _⟩ := hpl
        injection he with he1 _ he2
        injection he1 with he1
        injection he1 with he1
        subst he1 he2
        have c0 : w8.cell? ⟨g, 0, none⟩ = some (.slice (some ⟨b, 0, none⟩) 42 cap) := HC1.out.cell 0
        have cI : w8.cell? ⟨b, i, none⟩ = some (.int .i64 z2) := by rw [hcl i hlt, halfTo_low d (i + 1) i HLN.out (by omega) (by omega), HZK.out, HZ2K.out]
        have cT : w8.cell? ⟨g, 1, none⟩ = some (.int .i64 t) := HC1.out.cell 1
        clear hcl hfr
        go_still_tail 14, (by kernel_rfl)
        have HC2 := Aside0.mk (HC1.out.below (below_drew (Below.refl _ _)))
        have HM2 := Aside0.mk HM1.out.drew
        have cT2 : w8.drew.cell? ⟨g, 1, none⟩ = some (.int .i64 t) := cT
        have fT2 : w8.drew.frozen? ⟨g, 1, none⟩ = false := blk_frozen HC2.out.1 1
        clear HC1 HM1 cI cT c0
        change wpList _ _ _ _ _ w8.drew
        generalize w8.drew = wz at HC2 HM2 cT2 fT2 ⊢
        go_wp2
        go_roundw
        case rel => exact ⟨i + 1, by omega, by go_num, ⟨by rw [HBN.out]; exact HC2.out.setSum (t + z2)⟩, ⟨HM2.out.set HBG.out 1 _⟩⟩
        case measure => simp [intOf]; omega
      · have hi2 : i = 42 := by omega
        have n1 : ¬ (i : Int) < 42 := by omega
        rw [hi2, halfTo_all d HLN.out] at HC
        clear hi2
        go_wp2
        refine bodyPost_end (results_none rfl _ _ _) rfl ?_
        rw [HR.out]
        exact ⟨rfl, HC.out, HM.out⟩
end Go.Proofs.Ytoologbaoifheaa.Hand
/- Contracts of layer 19, proved by hand: the reference's Encode. -/
namespace Go.Proofs.Ytoologbaoifheaa.Hand
open Go.RowKit Go.Proofs.Ytoologbaoifheaa.Q Go.Proofs.Ytoologbaoifheaa.Math Go.Proofs.YtoologbaoifheaaW.PrintWords Go.Proofs.YtoologbaoifheaaW.PrintLast Go.Proofs.YtoologbaoifheaaW.PrintMore
set_option linter.unusedVariables false
set_option linter.unusedSimpArgs false

theorem byte_E : ∀ q, q ∈ 5 :: (Kd.int .u8).E → q = 5 := by
  intro q hq
  simpa [Kd.int, Kd.scalar] using hq
/-- The reference's encoder's call leaves a row of numbers. -/
theorem IntsAt.enc {w w' : World} {B B2 g : Nat} {u v v' : Value} {E : Enc} {xs : List Int} (h : IntsAt w B u xs) (he : RefAt w B2 g v E) (hm : Moved B2 g w v w' v') : IntsAt w' B u xs := by
  have h1 := Kd.R_types h he.1 (fun q hq => by rw [int_E q hq]; decide)
  have h2 := Kd.R_apartR h1 he.2.1 (fun q hq => by rw [int_E q hq]; decide)
  refine .of (Kd.R_kept h2 hm.kept ?_)
  rintro k ⟨⟨_, hk1⟩, hk2⟩ hs
  rcases hs with hs | hs
  · exact hk1 hs
  · exact hk2 hs.symm
theorem RCAt.enc {w w' : World} {B B2 g gc : Nat} {u v v' : Value} {E : Enc} {c : List Int} {s : Int} (h : RCAt w B gc u c s) (he : RefAt w B2 g v E) (hm : Moved B2 g w v w' v') : RCAt w' B gc u c s := by
  refine ⟨blk_kept h.1 hm.kept (fun hk => ?_), h.2.1.enc he hm, h.2.2⟩
  rcases hk with e | e
  · have h1 := he.1
    rw [← e, h.1] at h1
    injection h1 with h1
    injection h1 with h1 h2
    exact absurd h2 (by decide)
  · exact (Kd.R_ne he.2.1.all h.1 (by decide)) e.symm
/-- The counts' call leaves the reference's encoder. -/
theorem RefAt.cnt {w w' : World} {B B2 g gc : Nat} {u u' v : Value} {E : Enc} {c : List Int} {s : Int} (h : RefAt w B g v E) (hc : RCAt w B2 gc u c s) (hm : Moved B2 gc w u w' u') : RefAt w' B g v E := by
  refine ⟨blk_kept h.1 hm.kept (fun hk => ?_), ?_, h.2.2⟩
  · rcases hk with e | e
    · have h1 := hc.1
      rw [← e, h.1] at h1
      injection h1 with h1
      injection h1 with h1 h2
      exact absurd h2 (by decide)
    · exact (Kd.R_ne hc.2.1.all h.1 (by decide)) e.symm
  · have h1 := Kd.R_types h.2.1 hc.1 (fun q hq => by rw [byte_E q hq]; decide)
    have h2 := Kd.R_apartR h1 hc.2.1 (fun q hq => by rw [byte_E q hq]; decide)
    refine BytesAt.of (Kd.R_kept h2 hm.kept ?_)
    rintro k ⟨⟨_, hk1⟩, hk2⟩ hs
    rcases hs with hs | hs
    · exact hk1 hs
    · exact hk2 hs.symm
theorem Moved.base {B B2 g : Nat} {w w1 : World} {v v1 : Value} (h : Moved B g w v w1 v1) (hb : B2 ≤ B) : Moved B2 g w v w1 v1 := ⟨h.below.mono hb, h.kept, h.own⟩
theorem rmask (u R W : Nat) (hu : u < 2 ^ 41) (hW : W ≤ 16) : Go.bits .and .i64 ((u : Int) / 2 ^ R) (IntKind.i64.wrap (IntKind.i64.wrap (2 ^ W) - 1)) = ((u / 2 ^ R % 2 ^ W : Nat) : Int) := by
  have hud : u / 2 ^ R < 2 ^ 41 := Nat.lt_of_le_of_lt (Nat.div_le_self _ _) hu
  have h := mask_i64 (u / 2 ^ R) W hud hW
  rw [show ((u / 2 ^ R : Nat) : Int) = (u : Int) / 2 ^ R by simp] at h
  exact h
set_option maxHeartbeats 8000000 in
set_option maxRecDepth 100000 in
theorem REncode_any (l : List Int) (A : Option Addr) (c : Nat) (w : World) (hr : ReadsInt w .i64 A l.length l) (hl : l.length ≤ 1000000) (hin : ∀ n ∈ l, -9223372036854775808 ≤ n ∧ n ≤ 9223372036854775807) :
    Calls Try.prog 14 #[.slice A l.length c] w fun e w' => e = .returned (.tuple #[.string (encF l).1, .int .i64 (encF l).2]) ∧ Below w.heap.size w w' := by
  have hup := Try.underlying57
  have hup2 := Try.underlying59
  have HR := Aside0.mk hr
  have HI := Aside0.mk hin
  have HF : Aside0 (encF l = if ∀ n ∈ l, inB n then (finishS (runS l).e, 0) else (⟨#[]⟩, 1)) := ⟨rfl⟩
  clear hr hin
  go_enter Try.func14, Try.ntmps14
  go_wp2
  go_loopw [4] (fun iv wr => ∃ i : Nat, i ≤ l.length ∧ iv = .int .i64 i ∧ Aside0 (∀ n ∈ l.take i, inB n) ∧ wr = w) (fun iv _ => l.length - (intOf iv).toNat)
  case atStart => exact ⟨0, by omega, rfl, ⟨fun n hn => by simp at hn⟩, rfl⟩
  case round =>
    obtain ⟨i, hi, rfl, HB, hww⟩ := hrel
    have hw2 := hww.symm
    clear hww
    subst hw2
    by_cases hlt : i < l.length
    · have i0 : (0 : Int) ≤ (i : Int) := by omega
      have i1 : (i : Int) < (l.length : Int) := by omega
      obtain ⟨ad, rfl, hx⟩ := HR.out.at_ (i : Int) (by omega) i1
      rw [Int.toNat_natCast] at hx
      have ht : l.take (i + 1) = l.take i ++ [rd l (i : Int)] := by
        rw [List.take_succ_eq_append_getElem hlt]
        simp [rd, hlt]
      have hm : rd l (i : Int) ∈ l := by simp [rd, hlt]
      have hxi := HI.out _ hm
      have HMEM := Aside0.mk hm
      generalize rd l (i : Int) = x at hx ht hxi HMEM
      clear hm
      by_cases hb : inB x
      · have HB2 : Aside0 (∀ n ∈ l.take (i + 1), inB n) := ⟨fun n hn => by
          rw [ht] at hn
          rcases List.mem_append.1 hn with hn | hn
          · exact HB.out n hn
          · rw [List.mem_singleton.1 hn]; exact hb⟩
        have b1 : ¬ 1099511627776 ≤ x := by unfold inB at hb; omega
        have b2 : ¬ x < -1099511627776 := by unfold inB at hb; omega
        clear ht hb
        go_wp2
        go_roundw
        case rel => exact ⟨i + 1, by omega, by go_num, HB2, by trivial⟩
        case measure => simp [intOf]; omega
      · have hq : 1099511627776 ≤ x ∨ (¬ 1099511627776 ≤ x ∧ x < -1099511627776) := by unfold inB at hb; omega
        have HRES : Aside0 (encF l = (⟨#[]⟩, 1)) := ⟨by rw [HF.out, if_neg (fun q => hb (q x HMEM.out))]⟩
        clear ht hb
        rcases hq with hq | ⟨hq, hq2⟩
        all_goals
          go_wp2
          go_ret2
          rw [HRES.out]
          exact ⟨rfl, Below.refl _ _⟩
    · obtain rfl : i = l.length := by omega
      rw [List.take_length] at HB
      have HRES : Aside0 (encF l = (finishS (runS l).e, 0)) := ⟨by rw [HF.out, if_pos HB.out]⟩
      clear HF
      go_wp2_with fail
      refine (RNew_any _).mono ?_
      rintro e w1 ⟨rfl, rfl⟩
      have HE1 := Aside0.mk (rnew_at w w.heap.size (Nat.le_refl _))
      have HB1 : Aside0 (Below w.heap.size w (w.alloc (.cells (refCells newE (.slice none 0 0)) 87))) := ⟨below_alloc (Below.refl _ _) _⟩
      generalize w.alloc (.cells (refCells newE (.slice none 0 0)) 87) = w1 at HE1 HB1 ⊢
      go_wp2_with fail
      refine (rbegin_any _).mono ?_
      rintro e w2 ⟨rfl, u2, hC, hB⟩
      have HC2 := Aside0.mk (hC.lower HB1.out.size)
      have HE2 := Aside0.mk (HE1.out.below hB)
      have HB2 := Aside0.mk (HB1.out.trans (hB.mono HB1.out.size))
      clear hC hB HE1 HB1
      obtain ⟨b, hbb⟩ : ∃ b, w.heap.size = b := ⟨_, rfl⟩
      have HBB := Aside0.mk hbb
      rw [hbb] at HE2 HB2 HC2 ⊢
      clear hbb
      generalize w1.heap.size = gc at HC2 ⊢
      go_wp2
      go_loopw [7] (fun iv wq => ∃ (i : Nat) (v u : Value), i ≤ l.length ∧ iv = .int .i64 i ∧ Aside0 (RefAt wq b b v (runS (l.take i)).e) ∧ Aside0 (RCAt wq b gc u (runS (l.take i)).c (runS (l.take i)).s) ∧ Aside0 (Below b w wq)) (fun iv _ => l.length - (intOf iv).toNat)
      case atStart => exact ⟨0, _, u2, by omega, rfl, HE2, HC2, HB2⟩
      case round =>
        clear HE2 HC2 HB2 hlt hi
        obtain ⟨i, v, u0, hi, rfl, HE, HC, HBW⟩ := hrel
        by_cases hlt : i < l.length
        · have i0 : (0 : Int) ≤ (i : Int) := by omega
          have i1 : (i : Int) < (l.length : Int) := by omega
          obtain ⟨ad, rfl, hx⟩ := (HR.out.below (by rw [HBB.out]; exact HBW.out)).at_ (i : Int) (by omega) i1
          rw [Int.toNat_natCast] at hx
          have ht : l.take (i + 1) = l.take i ++ [rd l (i : Int)] := by
            rw [List.take_succ_eq_append_getElem hlt]
            simp [rd, hlt]
          have hm : rd l (i : Int) ∈ l := by simp [rd, hlt]
          have hxi := HI.out _ hm
          have hxb := HB.out _ hm
          have hok := run_ok (l.take i) (fun n hn => HB.out n (List.mem_of_mem_take hn))
          have hlen : (l.take i).length = i := by rw [List.length_take]; omega
          rw [hlen] at hok
          have hnx := runS_snoc (l.take i) (rd l (i : Int))
          rw [← ht] at hnx
          generalize rd l (i : Int) = x at hx hxi hxb hnx
          generalize runS (l.take i) = t at HE HC hok hnx
          have hk := class_lt x hxb
          obtain ⟨hu1, hu2⟩ := numU_lt x hxb
          have hst : stepS t x = ⟨lowE (numU x) 42 (blen (numU x) - 1) (putE (belowC t.c (blen (numU x))) (t.c.getD (blen (numU x)) 0) t.s t.e), (sawC t.c t.s (blen (numU x))).1, (sawC t.c t.s (blen (numU x))).2⟩ := rfl
          rw [hst] at hnx
          have HFO := Aside0.mk (fun W => lacquerref19_Fold.calls x _ W (rfoldM_eq x hxi.1 hxi.2))
          rw [hu2] at HFO
          generalize numU x = u at hk hu1 hnx HFO
          have HLE := Aside0.mk (fun W => RClass_any u hu1 W)
          obtain ⟨k, hkk⟩ : ∃ k, blen u = k := ⟨_, rfl⟩
          rw [hkk] at hk hnx HLE
          have HNX := Aside0.mk hnx
          have HOK := Aside0.mk hok
          have HU1 := Aside0.mk hu1
          clear ht hm hlen hnx hok hst hkk hxi hxb hu1 hu2
          go_wp2_with fail
          with_reducible refine (HFO.out _).mono ?_
          rintro e w3 ⟨rfl, hd3⟩
          go_wp2_with fail
          with_reducible refine (HLE.out _).mono ?_
          rintro e w4 ⟨rfl, hd4⟩
          have HE4 := Aside0.mk ((HE.out.below hd3.below).below hd4.below)
          have HC4 := Aside0.mk ((HC.out.below hd3.below).below hd4.below)
          have HB4 : Aside0 (Below b w w4) := ⟨(HBW.out.trans (hd3.below.mono (by have := HE.out.lt; omega))).trans (hd4.below.mono (by have := (HE.out.below hd3.below).lt; omega))⟩
          clear hd3 hd4 hx HE HC HBW HFO HLE
          have hc42 := HOK.out.cnt.len
          obtain ⟨bb, cap, hu0, hcap, hcl, _, _, _⟩ := HC4.out.2.1.place 0 (by omega)
          rw [hc42] at hu0 hcl
          have c0 : w4.cell? ⟨gc, 0, none⟩ = some u0 := HC4.out.cell 0
          have cT : w4.cell? ⟨gc, 1, none⟩ = some (.int .i64 t.s) := HC4.out.cell 1
          have cK : w4.cell? ⟨bb, k, none⟩ = some (.int .i64 (t.c.getD k 0)) := hcl k hk
          rw [hu0] at c0
          have HPM := Aside0.mk (HOK.out.cnt.part k hk)
          have HPO := Aside0.mk (put_ok _ _ _ HOK.out.fit HOK.out.wid HOK.out.size HPM.out)
          have HPC := Aside0.mk (fun X (hX : RefAt X b b v t.e) => RPut_yes (belowC t.c k) (t.c.getD k 0) t.s t.e b b v X hX HOK.out.fit.good HOK.out.wid HPM.out (by have := HOK.out.size; omega))
          have HSB := Aside0.mk (rbelow_still t.c t.s HOK.out.cnt.small hc42 k (by omega) b gc u0 w4.drew (HC4.out.below (below_drew (Below.refl _ _))))
          obtain ⟨f0, hf0⟩ : ∃ f0, belowC t.c k = f0 := ⟨_, rfl⟩
          obtain ⟨n0, hn0⟩ : ∃ n0, t.c.getD k 0 = n0 := ⟨_, rfl⟩
          rw [hf0, hn0] at HPO HPC HNX
          rw [hf0] at HSB
          rw [hn0] at cK
          have k0 : (0 : Int) ≤ (k : Int) := by omega
          have k1 : (k : Int) < 42 := by omega
          clear hf0 hn0 hcl
          go_wp2
          go_still_tail 15, (by kernel_rfl)
          still_call HSB.out
          repeat still_step
          refine wpStill_nil ?_
          have HE5 := Aside0.mk (HE4.out.below (below_drew (Below.refl _ _)))
          have HC5 := Aside0.mk (HC4.out.below (below_drew (Below.refl _ _)))
          have HB5 : Aside0 (Below b w w4.drew) := ⟨below_drew HB4.out⟩
          clear c0 cT cK HE4 HC4 HB4 HSB
          change wpList _ _ _ _ _ w4.drew
          generalize w4.drew = w5 at HE5 HC5 HB5 ⊢
          go_wp2_with fail
          with_reducible refine (HPC.out _ HE5.out).mono ?_
          rintro e w6 ⟨rfl, v6, hE, hM⟩
          have HE6 := Aside0.mk hE
          have HC6 := Aside0.mk (HC5.out.enc HE5.out hM)
          have HB6 := Aside0.mk (HB5.out.trans hM.below)
          clear hE hM HE5 HC5 HB5 HPC HPM
          generalize putE f0 n0 t.s t.e = E0 at HE6 HPO HNX
          obtain ⟨q1, q2, q3⟩ := HPO.out
          have HQ := Aside0.mk (And.intro q1 (And.intro q2 q3))
          clear q1 q2 q3 HPO
          obtain ⟨E9, hE9⟩ : ∃ E9, lowE u 42 (k - 1) E0 = E9 := ⟨_, rfl⟩
          rw [hE9] at HNX
          have HE9 := Aside0.mk hE9
          clear hE9
          have ekl : IntKind.i64.wrap ((k : Int) - 1) = (k : Int) - 1 := by rw [IntKind.wrap_i64]; omega
          have HKK := Aside0.mk hk
          go_wp2_with fail
          with_reducible refine (RPieces_any k hk w6).mono ?_
          rintro e w7 ⟨vp, rfl, hP, hB7⟩
          have HE7 := Aside0.mk (HE6.out.below hB7)
          have HC7 := Aside0.mk (HC6.out.below hB7)
          have HP7 := Aside0.mk hP
          have HB7 : Aside0 (Below b w w7) := ⟨HB6.out.trans (hB7.mono (by have := HE6.out.lt; omega))⟩
          have hb6 : b ≤ w6.heap.size := by have := HE6.out.lt; have := HE6.out.2.2; omega
          clear hP hB7 HE6 HC6 HB6
          obtain ⟨Ap, cp, rfl, hcp, _⟩ := HP7.out.C
          have hfew := cutL_few (k - 1) (by omega)
          obtain ⟨m, hm⟩ : ∃ m, (cutL (k - 1)).length = m := ⟨_, rfl⟩
          rw [hm] at hcp hfew HP7 ⊢
          have HMM := Aside0.mk hm
          clear hm
          go_wp2
          go_loopw [11, 12] (fun lv jv wr => ∃ (j : Nat) (z : Int) (E : Enc) (v' : Value), j ≤ m ∧ jv = .int .i64 j ∧ lv = .int .i64 z ∧ (0 ≤ z ∨ k = 0) ∧ z < 42 ∧ Aside0 ((cutL (k - 1)).drop j = cutL z.toNat) ∧ Aside0 (lowE u (42 - j) z.toNat E = E9) ∧ Aside0 (RefAt wr b b v' E) ∧ Aside0 (RCAt wr b gc u0 t.c t.s) ∧ Aside0 (IntsAt wr b (.slice Ap m cp) (cutL (k - 1))) ∧ Aside0 (Below b w wr) ∧ Aside0 (Fits E ∧ 16777216 ≤ E.width ∧ sizeE E ≤ 1 + 129 * i + 3 + 3 * j)) (fun _ jv _ => m - (intOf jv).toNat)
          case atStart =>
            exact ⟨0, (k : Int) - 1, E0, v6, by omega, rfl, rfl, by omega, by omega, ⟨by rw [show ((k : Int) - 1).toNat = k - 1 by omega]; rfl⟩, ⟨by rw [show ((k : Int) - 1).toNat = k - 1 by omega]; exact HE9.out⟩, HE7, HC7, ⟨HP7.out.lower hb6⟩, HB7, ⟨HQ.out.1, HQ.out.2.1, by have := HQ.out.2.2; omega⟩⟩
          case round =>
            clear HE7 HC7 HB7 HP7 HQ HE9
            obtain ⟨j, z, E, v', hj, rfl, rfl, hz0, hz1, HD, HL, HE, HC, HP, HBW, HQ⟩ := hrel
            obtain ⟨L, hzL⟩ : ∃ L, z.toNat = L := ⟨_, rfl⟩
            rw [hzL] at HD HL
            have hL : L < 42 := by omega
            by_cases hjm : j < m
            · have j0 : (0 : Int) ≤ (j : Int) := by omega
              have j1 : (j : Int) < (m : Int) := by omega
              have hcons : cutL L ≠ [] := by
                rw [← HD.out]
                intro e
                have := congrArg List.length e
                rw [List.length_drop, HMM.out, List.length_nil] at this
                omega
              have hLp : 0 < L := by
                rcases Nat.eq_zero_or_pos L with h0 | h0
                · subst h0
                  exact absurd rfl hcons
                · exact h0
              have hzn : z = (L : Int) := by omega
              subst hzn
              have hk2 : 2 ≤ k := by
                rcases Nat.lt_or_ge k 2 with h2 | h2
                · exfalso
                  have hk1 : k - 1 = 0 := by omega
                  have := HD.out
                  rw [hk1, show cutL 0 = [] from rfl, List.drop_nil] at this
                  exact hcons this.symm
                · exact h2
              have hk2' : (2 : Int) ≤ (k : Int) := by omega
              have hcc := cutL_cons L hLp
              have hlow : lowE u (42 - j) L E = lowE u (42 - (j + 1)) (L - ((L - 1) % 16 + 1)) (putE ((u / 2 ^ (L - ((L - 1) % 16 + 1)) % 2 ^ ((L - 1) % 16 + 1) : Nat) : Int) 1 (2 ^ ((L - 1) % 16 + 1)) E) := by
                obtain ⟨f, hf⟩ : ∃ f, 42 - j = f + 1 := ⟨41 - j, by omega⟩
                rw [hf, show 42 - (j + 1) = f by omega]
                show (if L = 0 then E else _) = _
                rw [if_neg (by omega)]
              have hbp := low_piece u L hLp
              obtain ⟨W, hW⟩ : ∃ W, (L - 1) % 16 + 1 = W := ⟨_, rfl⟩
              obtain ⟨R, hR⟩ : ∃ R, L - W = R := ⟨_, rfl⟩
              rw [hW, hR] at hlow hcc hbp
              have w1 : 1 ≤ W ∧ W ≤ 16 := by omega
              obtain ⟨w1, w2⟩ := w1
              obtain ⟨A9, c9, e9, _, hC9⟩ := HP.out.C
              injection e9 with e9 e10 e11
              subst e9
              clear e10 e11
              obtain ⟨adp, rfl, hxp⟩ := (Kd.reads_of_C (d := (0 : Int)) (enc := Value.int .i64) hC9).at_ (j : Int) j0 (by rw [HMM.out]; exact j1)
              rw [Int.toNat_natCast] at hxp
              have hval : rdOf 0 (cutL (k - 1)) (j : Int) = (W : Int) := by
                have h1 := HD.out
                rw [hcc] at h1
                have h2 : (cutL (k - 1))[j]? = some (W : Int) := by
                  have := congrArg (fun l => l[0]?) h1
                  simpa [List.getElem?_drop] using this
                simp [rdOf, h2]
              have hdr : (cutL (k - 1)).drop (j + 1) = cutL R := by
                have h1 := congrArg List.tail (HD.out.trans hcc)
                rw [List.tail_drop] at h1
                exact h1
              rw [hval] at hxp
              have e4 : IntKind.i64.wrap ((L : Int) - (W : Int)) = (R : Int) := by rw [IntKind.wrap_i64]; omega
              have r0 : (0 : Int) ≤ (R : Int) := by omega
              have r1 : (R : Int) < 64 := by omega
              have v0 : (0 : Int) ≤ (W : Int) := by omega
              have v1 : (W : Int) < 64 := by omega
              have eu1 : IntKind.u64.wrap (R : Int) = (R : Int) := by rw [u64_wrap]; omega
              have eu2 : IntKind.u64.wrap (W : Int) = (W : Int) := by rw [u64_wrap]; omega
              have hmk := rmask u R W HU1.out w2
              obtain ⟨N, hN⟩ : ∃ N, u / 2 ^ R % 2 ^ W = N := ⟨_, rfl⟩
              rw [hN] at hmk hbp hlow
              have HLL := Aside0.mk (hlow.symm.trans HL.out)
              have HBC := Aside0.mk (fun X (hX : RefAt X b b v' E) => RBits_yes (N : Int) (W : Int) E b b v' X hX HQ.out.1.good HQ.out.2.1 hbp (by have := HQ.out.2.2; omega))
              rw [Int.toNat_natCast] at HBC
              have hbm := bits_may _ _ hbp
              rw [Int.toNat_natCast] at hbm
              have HPO := Aside0.mk (put_ok (N : Int) 1 (2 ^ W) HQ.out.1 HQ.out.2.1 (Nat.le_refl _) hbm)
              have HRW := Aside0.mk hR
              have HMK := Aside0.mk hmk
              have ewr : ∀ x : Int, IntKind.i64.wrap x = wrap64 x := fun x => by rw [IntKind.wrap_i64]; unfold wrap64; omega
              rw [ewr, ewr] at hmk
              have HMK2 := Aside0.mk hmk
              have HDR := Aside0.mk hdr
              clear ewr hlow hbp hmk hbm hN hW hR HL hdr HD hcc hcons hval hC9
              go_wp2
              go_still_tail 17, (by kernel_rfl)
              have HEd := Aside0.mk (HE.out.below (below_drew (Below.refl _ _)))
              have HCd := Aside0.mk (HC.out.below (below_drew (Below.refl _ _)))
              have HPd := Aside0.mk (HP.out.below (below_drew (Below.refl _ _)))
              have HBd : Aside0 (Below b w wr.drew) := ⟨below_drew HBW.out⟩
              clear HE HC HP HBW hxp
              change wpList _ _ _ _ _ wr.drew
              generalize wr.drew = wz at HEd HCd HPd HBd ⊢
              go_wp2_with fail
              (try rw [HMK.out]); (try rw [HMK2.out])
              with_reducible refine (HBC.out _ HEd.out).mono ?_
              rintro e w7 ⟨rfl, v7, hE, hM⟩
              have HE8 := Aside0.mk hE
              have HC8 := Aside0.mk (HCd.out.enc HEd.out hM)
              have HP8 := Aside0.mk (HPd.out.enc HEd.out hM)
              have HB8 := Aside0.mk (HBd.out.trans hM.below)
              clear hE hM HBC HMK HMK2
              go_wp2
              go_roundw
              case rel => exact ⟨j + 1, (R : Int), _, v7, by omega, by go_num, rfl, by omega, by have := HRW.out; omega, ⟨by rw [Int.toNat_natCast]; exact HDR.out⟩, ⟨by rw [Int.toNat_natCast]; exact HLL.out⟩, HE8, HC8, HP8, HB8, ⟨HPO.out.1, HPO.out.2.1, by have := HPO.out.2.2; have := HQ.out.2.2; omega⟩⟩
              case measure => simp [intOf]; omega
            · have hjm2 : j = m := by omega
              have hL0 : L = 0 := by
                apply cutL_nil
                rw [← HD.out]
                exact List.drop_eq_nil_of_le (by rw [HMM.out]; omega)
              have he : E = E9 := by
                have := HL.out
                rw [hL0] at this
                rw [← this]
                cases 42 - j <;> rfl
              subst he
              have hjn : ¬ (j : Int) < (m : Int) := by omega
              clear HL HD
              have HSW := Aside0.mk (grow_any t.c t.s HOK.out.cnt.small HOK.out.cnt.len k HKK.out (by have h1 := HOK.out.cnt.at k HKK.out; have h2 := HOK.out.cnt.top; omega) (by have h1 := HOK.out.cnt.at k HKK.out; omega) (by have h2 := HOK.out.cnt.top; omega) b gc u0 wr HC.out)
              go_wp2_with fail
              with_reducible refine HSW.out.mono ?_
              rintro e w8 ⟨rfl, hC, hM⟩
              have HC9 := Aside0.mk hC
              have HE9 := Aside0.mk (HE.out.cnt HC.out hM)
              have HB9 := Aside0.mk (HBW.out.trans hM.below)
              clear hC hM HE HC HBW HSW HP
              go_wp2
              go_roundw
              case rel => exact ⟨i + 1, v', u0, by omega, by go_num, by rw [HNX.out]; exact HE9, by rw [HNX.out]; exact HC9, HB9⟩
              case measure => simp [intOf]; omega
        · obtain rfl : i = l.length := by omega
          have hok := run_ok (l.take l.length) (fun n hn => HB.out n (List.mem_of_mem_take hn))
          rw [List.take_length] at HE hok
          have HFI := Aside0.mk (fun W v (h : RefAt W b b v (runS l).e) => RFinish_any (runS l).e b b v W h hok.fit.good (by have := hok.size; omega))
          clear hok
          go_wp2_with fail
          with_reducible refine (HFI.out _ _ HE.out).mono ?_
          rintro e w9 ⟨rfl, v9, hE, hM⟩
          have HB9 := Aside0.mk (HBW.out.trans hM.below)
          clear hE hM
          go_wp2
          go_ret2
          rw [HRES.out]
          exact ⟨rfl, by rw [HBB.out]; exact HB9.out⟩
end Go.Proofs.Ytoologbaoifheaa.Hand
/- Contracts of layer 19, proved by hand: ModelEncodes. -/
namespace Go.Proofs.Ytoologbaoifheaa.Hand
open Go.RowKit Go.Proofs.Ytoologbaoifheaa.Q Go.Proofs.Ytoologbaoifheaa.Math Go.Proofs.YtoologbaoifheaaW.PrintWords Go.Proofs.YtoologbaoifheaaW.PrintLast Go.Proofs.YtoologbaoifheaaW.PrintMore
set_option linter.unusedVariables false
set_option linter.unusedSimpArgs false

section
variable {ops : Array Oper} {o : Oper} {a : Act} {Q : Exit → Act → World → Prop} {rest : List Oper}
/-- A copy of a list of numbers. -/
theorem copy_ints {W : World} (x : Operand) {ys : List Int} {A : Option Addr} {c : Nat} (hgd : o.guard = none)
    (ho : o.op = .call { callee := .builtin .append, args := #[.const (.slice none 0 0), x], argTypes := #[25, 25] }) (hx : a.eval x = .slice A ys.length c)
    (HC : Kd.C (Kd.int .i64) W A ys.length ys) (hl : ys.length ≤ 1000000)
    (h : ∀ v1 w1, Aside0 (IntsAt w1 W.heap.size v1 ys) → Aside0 (Below W.heap.size W w1) → wpList Try.prog ops Q rest (a.put o.dst v1) w1) :
    wpList Try.prog ops Q (o :: rest) a W :=
  Kd.R_append_rows (Kd.int .i64) (w0 := W) W.heap.size hgd (.const (.slice none 0 0)) x 25 3 (.int .i64 0) 8 ho Try.underlying25 infoI rfl (by decide) (by decide) (.slice none 0 0) [] ys A ys.length c (fun _ => True) (fun _ => False) rfl hx
    (Kd.R_nil _ _ _ _ _) HC (fun _ _ hx => hx) (fun _ hk => hk.elim) (fun _ _ => trivial) (Below.refl _ _) (Nat.le_refl _) (by simp; omega) (fun v1 w1 h1 h2 _ _ => h v1 w1 ⟨.of h1⟩ ⟨h2⟩)
end
set_option maxHeartbeats 8000000 in
set_option maxRecDepth 100000 in
theorem Encodes_any (l : List Int) (A : Option Addr) (c : Nat) (w : World) (hA : Kd.C (Kd.int .i64) w A l.length l) (hc : l.length ≤ c) (hin : ∀ n ∈ l, -9223372036854775808 ≤ n ∧ n ≤ 9223372036854775807) :
    Calls Try.prog 4 #[.slice A l.length c] w fun e w' => e = .returned (.bool true) ∧ Below w.heap.size w w' := by
  by_cases h3 : (3000 : Int) < (l.length : Int)
  · go_enter Try.func4, Try.ntmps4
    go_wp2_with fail
    with_reducible refine (awake_any _).mono ?_
    rintro e w1 ⟨rfl, hB⟩
    have HB1 := Aside0.mk hB
    clear hB
    go_wp2
    go_ret
    exact ⟨rfl, HB1.out⟩
  · have HA := Aside0.mk hA
    have HIN := Aside0.mk hin
    clear hA hin
    go_enter Try.func4, Try.ntmps4
    go_wp2_with (at_builtin; (with_reducible refine copy_ints (.tmp 12) (ys := l) (A := A) (c := c) ?_ ?_ ?_ ?_ ?_ ?_); rfl; rfl; rfl; exact HA.out; omega; intro v1 w1 HV1 HB1; obtain ⟨A1, c1, e1, _, hC1⟩ := HV1.out.C; subst e1; have HEN := Aside0.mk (Encode_any l A1 c1 w1 (Kd.reads_of_C (d := (0 : Int)) (enc := Value.int .i64) hC1) (by omega) HIN.out); clear hC1)
    with_reducible refine HEN.out.mono ?_
    rintro e w2 ⟨rfl, hB⟩
    have HB2 := Aside0.mk (HB1.out.trans (hB.mono HB1.out.size))
    have HRN := Aside0.mk (REncode_any l A c w2 (Kd.reads_of_C (d := (0 : Int)) (enc := Value.int .i64) (Kd.C_below HA.out HB2.out)) (by omega) HIN.out)
    clear hB HB1 HEN HV1
    go_wp2_with fail
    with_reducible refine HRN.out.mono ?_
    rintro e w3 ⟨rfl, hB⟩
    have HB3 := Aside0.mk (HB2.out.trans (hB.mono HB2.out.size))
    clear hB HB2 HRN
    generalize (encF l).1 = S
    generalize (encF l).2 = E
    go_wp2_with fail
    with_reducible refine (awake_any _).mono ?_
    rintro e w4 ⟨rfl, hB⟩
    have HB4 := Aside0.mk (HB3.out.trans (hB.mono HB3.out.size))
    clear hB HB3
    go_wp2
    go_ret
    exact ⟨rfl, HB4.out⟩
theorem Encodes_came (A : Option Addr) (n c : Nat) (V : Nat → Int) (w : World) (hc : n ≤ c) (hn : n * 8 ≤ 140737488351232)
    (F : ∀ j, j < n → ∃ ad, A = some ad ∧ w.cell? (ad.add j) = some (.int .i64 (V j)) ∧ -9223372036854775808 ≤ V j ∧ V j ≤ 9223372036854775807) :
    Calls Try.prog 4 #[.slice A n c] w fun e w' => e = .returned (.bool true) ∧ Below w.heap.size w w' := by
  obtain ⟨a, rfl, ha, ia⟩ := came_list hn F
  exact Encodes_any a A c w ha hc ia
end Go.Proofs.Ytoologbaoifheaa.Hand
