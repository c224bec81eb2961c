/- Texts of this claim's proof, laid behind each other by a program of ours, without what the proof does not reach: Contracts of layer 8, proved by hand: Decode, where its head may be (method 1); Contracts of layer 8, proved by hand: Encode and Decode, whole; Plain words of layer 1: what was written is read as it was -/
import Derived.Laws.StructEq
import Derived.Test.YtfhekkoibmlmpaaEnc1
import Derived.Test.YtfhekkoibmlmpaaEnc2
import Derived.Test.YtfhekkoibmlmpaaEnc3
import Derived.Test.YtfhekkoibmlmpaaEnc4
import Derived.Test.YtfhekkoibmlmpaaEnc5
import Derived.Test.YtfhekkoibmlmpaaEncWApart
import Derived.Test.YtfhekkoibmlmpaaEncWFoot
import Derived.Test.YtfhekkoibmlmpaaEncWGuard
import Derived.Test.YtfhekkoibmlmpaaEncWInv
import Derived.Test.YtfhekkoibmlmpaaEncWKept
import Derived.Test.YtfhekkoibmlmpaaEncWLast
import Derived.Test.YtfhekkoibmlmpaaEncWMore
import Derived.Test.YtfhekkoibmlmpaaEncWN
import Derived.Test.YtfhekkoibmlmpaaEncWRepsOne
import Derived.Test.YtfhekkoibmlmpaaEncWShare
import Derived.Test.YtfhekkoibmlmpaaEncWTab
import Derived.Test.YtfhekkoibmlmpaaEncWWords
/- Contracts of layer 8, proved by hand: Decode, where its head may be (method 1). -/
namespace Go.Proofs.Ytfhekkoibmlmpaa.Hand
open Go.RowKit Go.Proofs.Ytfhekkoibmlmpaa.Q Go.Proofs.YtfhekkoibmlmpaaW.PrintWords Go.Proofs.YtfhekkoibmlmpaaW.PrintLast Go.Proofs.YtfhekkoibmlmpaaW.PrintMore
set_option linter.unusedVariables false
set_option linter.unusedSimpArgs false

set_option maxHeartbeats 16000000 in
set_option maxRecDepth 100000 in
theorem Decode_go1 (s : ByteArray) (hs : s.size ≤ 281474976710656) (p : Nat) (hp : p ≤ 8 * s.size) (Bk Oq n : Nat) (hbad : ¬ badArgs Bk Oq) (B g : Nat) (hB : B ≤ g) (w : World) (hBw : B ≤ w.heap.size) (hR : RAt w g s p)
    (h1 : (getR s p 2).2.1 = 0) (h2 : (getR s (getR s p 2).2.2 4).2.1 = 0) (hm : (getR s p 2).1 = 1) (hsh : shapeP 1 (getR s (getR s p 2).2.2 4).1 Bk Oq) (hn : Bk = 2 ^ (getR s (getR s p 2).2.2 4).1 * n) (hon : Oq ≤ n) :
    Calls Try.prog 21 #[.pointer (some ⟨g, 0, none⟩), .int .i64 Bk, .int .i64 Oq] w
      (DecPost s 1 (getR s (getR s p 2).2.2 4).1 (decL s n Oq 5 (2 ^ (getR s (getR s p 2).2.2 4).1) 0 [] [] [] (getR s (getR s p 2).2.2 4).2.2) w.heap.size B g w) := by
  have hup := Try.underlying45
  obtain ⟨x1, x2, x3, x4, x5⟩ : ¬ (Bk : Int) < 1 ∧ ¬ 65535 < (Bk : Int) ∧ ¬ (Oq : Int) < 0 ∧ ¬ 32 < (Oq : Int) ∧ ¬ (Bk : Int) < (Oq : Int) := by unfold badArgs at hbad; omega
  have hgl := hR.lt
  have hbel : Below w.heap.size w (w.alloc (.cells zRice 24)) := below_alloc (Below.refl _ _) _
  have HG1 := Aside0.mk (Get_any s hs p hp 2 B g hB (w.alloc (.cells zRice 24)) (hR.below hbel))
  have hat1 := getR_at s p 2 hp
  have hl1 : (getR s p 2).1 < 4 := getR_small s p 2
  have HG2 : Aside0 (∀ W, RAt W g s (getR s p 2).2.2 → Calls Try.prog 41 #[.pointer (some ⟨g, 0, none⟩), .int .i64 4] W fun e w' => e = .returned (.tuple #[.int .u64 (getR s (getR s p 2).2.2 4).1, .int .i64 (getR s (getR s p 2).2.2 4).2.1]) ∧ RAt w' g s (getR s (getR s p 2).2.2 4).2.2 ∧ Turned B g W w') := ⟨fun W h => Get_any s hs _ hat1 4 B g hB W h⟩
  have hat2 := getR_at s (getR s p 2).2.2 4 hat1
  have hl2 : (getR s (getR s p 2).2.2 4).1 < 16 := getR_small s _ 4
  have HT0 := Aside0.mk ((Turned.refl B g w).new hbel (by omega))
  have HZ0 := Aside0.mk (blk_new w (.cells zRice 24 (0, 0)))
  have hb7 : w.heap.size ≠ g := by omega
  have HS := Aside0.mk hs
  clear hbad hR hbel hs
  generalize getR s (getR s p 2).2.2 4 = gr2 at h2 hsh hn HG2 hat2 hl2 ⊢
  generalize getR s p 2 = gr1 at h1 hm HG1 HG2 hat1 hl1 ⊢
  obtain ⟨a1, e1, q1⟩ := gr1
  obtain ⟨a2, e2, q2⟩ := gr2
  simp only at h1 h2 hm hsh hn HG1 HG2 hat1 hat2 hl1 hl2 ⊢
  subst h1
  subst h2
  subst hm
  obtain ⟨X, hX⟩ : ∃ X, decL s n Oq 5 (2 ^ a2) 0 [] [] [] q2 = X := ⟨_, rfl⟩
  rw [hX]
  have HX := Aside0.mk hX
  have hN2 : 2 ^ a2 ≤ 2 ^ 15 := Nat.pow_le_pow_right (by decide) (by omega)
  have hNp : 0 < 2 ^ a2 := Nat.two_pow_pos a2
  have hsl : (1 : Int) * 2 ^ min ((a2 : Int)).toNat 64 = ((2 ^ a2 : Nat) : Int) := by
    rw [Int.toNat_natCast, Nat.min_eq_left (by omega), Int.one_mul]
    simp
  have hdv : Bk / 2 ^ a2 = n := by rw [hn]; exact Nat.mul_div_cancel_left n hNp
  have hsr : (Bk : Int) / 2 ^ min ((a2 : Int)).toNat 64 = (n : Int) := by rw [shr_small Bk a2 (by omega), hdv]
  have HCS : Aside0 (∀ W, Calls Try.prog 39 #[.agg #[.int .i64 1, .int .i64 a2, .slice none 0 0, .slice none 0 0], .int .i64 Bk, .int .i64 Oq] W fun e w' => e = .returned (.bool true) ∧ Below W.heap.size W w') := ⟨fun W =>
    rice_shape.calls 1 a2 none 0 [] none 0 [] Bk Oq true W ⟨rfl, by decide, fun h => absurd h (Nat.lt_irrefl _)⟩ (Nat.le_refl _) ⟨rfl, by decide, fun h => absurd h (Nat.lt_irrefl _)⟩ (Nat.le_refl _) (by rw [shape_eq 1 a2 [] [] Bk Oq (by omega) (by omega), decide_eq_true hsh])⟩
  have HNn : Aside0 (2 ^ a2 * n ≤ 65535) := ⟨by rw [← hn]; omega⟩
  have hn6 : n ≤ 65535 := by
    have := HNn.out
    have h3 : 1 * n ≤ 2 ^ a2 * n := Nat.mul_le_mul_right n hNp
    omega
  obtain ⟨N, hN⟩ : ∃ N, 2 ^ a2 = N := ⟨_, rfl⟩
  rw [hN] at HX hN2 hNp hsl HNn
  clear hX hn hsh hdv hN
  obtain ⟨oI, ho⟩ : ∃ oI : Int, (a2 : Int) = oI := ⟨_, rfl⟩
  have o0 : 0 ≤ oI := by omega
  have o1 : oI ≤ 64 := by omega
  have o2 : oI.toNat = a2 := by omega
  rw [ho] at hsl hsr HG2 HCS ⊢
  have HO := Aside0.mk ho
  clear ho o2 hl2
  have hj9 : IntKind.i64.wrap (1 * 2 ^ min oI.toNat 64) = (N : Int) := by rw [hsl, IntKind.wrap_i64]; omega
  have hmin : min oI.toNat 64 = oI.toNat := Nat.min_eq_left (by omega)
  have hj0 : IntKind.i64.wrap (1 * 2 ^ oI.toNat) = (N : Int) := by rw [hmin] at hj9; exact hj9
  have hj1 : IntKind.i64.wrap (2 ^ min oI.toNat 64) = (N : Int) := by rw [Int.one_mul] at hj9; exact hj9
  have hj2 : IntKind.i64.wrap (2 ^ oI.toNat) = (N : Int) := by rw [Int.one_mul] at hj0; exact hj0
  have hj3 : wrap64 (1 * 2 ^ min oI.toNat 64) = (N : Int) := by rw [hsl]; unfold wrap64; omega
  have hj4 : wrap64 (2 ^ min oI.toNat 64) = (N : Int) := by rw [Int.one_mul] at hj3; exact hj3
  have hr0 : (Bk : Int) / 2 ^ oI.toNat = (n : Int) := by rw [hmin] at hsr; exact hsr
  have HJ := Aside0.mk (And.intro hj9 (And.intro hj0 (And.intro hj1 (And.intro hj2 (And.intro hj3 hj4)))))
  have HRR := Aside0.mk (And.intro hsr hr0)
  clear hsl hmin hj9 hj0 hj1 hj2 hj3 hj4 hsr hr0
  go_enter Try.func21, Try.ntmps21
  go_wp2_with fail
  with_reducible refine HG1.out.mono ?_
  rintro e w2 ⟨rfl, hr2, ht2⟩
  have HR2 := Aside0.mk hr2
  have HT2 := Aside0.mk (HT0.out.trans ht2)
  have HZ2 := Aside0.mk (blk_kept HZ0.out ht2.kept (fun h => hb7 h))
  clear hr2 ht2 HG1 HT0 HZ0
  go_wp2_with fail
  with_reducible refine (HG2.out w2 HR2.out).mono ?_
  rintro e w3 ⟨rfl, hr3, ht3⟩
  have HR3 := Aside0.mk hr3
  have HT3 := Aside0.mk (HT2.out.trans ht3)
  have HZ3 := Aside0.mk (blk_kept HZ2.out ht3.kept (fun h => hb7 h))
  have hg3 := hr3.lt
  have hsz3 := HT3.out.kept.1
  clear hr3 ht3 HG2 HT2 HZ2 HR2
  have HB4 := Aside0.mk (below_setRow (below_alloc (Below.refl w3.heap.size w3) (.cells zRice 24 (0, 0))) (Nat.le_refl _) #[.int .i64 1, .int .i64 oI, .slice none 0 0, .slice none 0 0])
  have HX4 := Aside0.mk (setRow_heap _ _ _ #[.int .i64 1, .int .i64 oI, .slice none 0 0, .slice none 0 0] _ _ (blk_new w3 (.cells zRice 24 (0, 0))))
  have HZ4 := Aside0.mk (blk_below HZ3.out HB4.out)
  have HR4 := Aside0.mk (HR3.out.below HB4.out)
  have HT4 := Aside0.mk (HT3.out.new HB4.out (by omega))
  have h713 : w.heap.size ≠ w3.heap.size := by have := blk_lt HZ3.out; omega
  clear HZ3 HR3 HT3
  go_upto_region 6 with ((with_reducible refine wpList_store_row ?_ 24 (.tmp 13) (.tmp 59) ?_ w3.heap.size #[.int .i64 1, .int .i64 oI, .slice none 0 0, .slice none 0 0] ?_ ?_ 24 zRice (blk_new w3 (.cells zRice 24 (0, 0))) (rc_info _ _ _ _) ?_ (rc_one _ _ _ _ _ _ _ _) ?_); rfl; rfl; rfl; rfl; rfl)
  have hsz4 := HB4.out.size
  generalize (w3.alloc (.cells zRice 24 (0, 0))).setRow w3.heap.size #[.int .i64 1, .int .i64 oI, .slice none 0 0, .slice none 0 0] = w4 at *
  have hB13 : w.heap.size ≤ w3.heap.size := hsz3
  have hg13 : g ≠ w3.heap.size := by omega
  clear hsz3 hg3 HB4
  generalize w3.heap.size = b13 at *
  have c0 := blk_cell HX4.out 0
  have c1 := blk_cell HX4.out 1
  have c2 := blk_cell HX4.out 2
  have c3 := blk_cell HX4.out 3
  go_wp2_with fail
  with_reducible refine (HCS.out _).mono ?_
  rintro e w5 ⟨rfl, hb5⟩
  have hst : DecSt w B g w.heap.size b13 s 1 oI w5 q2 (.slice none 0 0) (.slice none 0 0) (.slice none 0 0) [] [] [] :=
    ⟨HR4.out.below hb5, HT4.out.new hb5 (by have := HR4.out.lt; omega), blk_below HZ4.out hb5, blk_below HX4.out hb5, IntsAt.nil _ _, IntsAt.nil _ _, IntsAt.nil _ _, Dis.nil_left _, Dis.nil_left _, Dis.nil_left _⟩
  have HST := Aside0.mk hst
  clear hb5 c0 c1 c2 c3 HX4 HZ4 HR4 HT4 HCS hst
  have d1 := blk_cell HST.out.r13 1
  obtain ⟨hj9, hj0, hj1, hj2, hj3, hj4⟩ := HJ.out
  go_wp2
  clear hj9 hj0 hj1 hj2 hj3 hj4
  go_loopw [14, 77] (fun uv iv wr => ∃ (i : Nat) (vP vE : Value) (al ps es : List Int) (q : Nat), i ≤ N ∧ iv = .int .i64 i ∧ q ≤ 8 * s.size ∧ al.length ≤ i * n ∧ ps.length = i ∧ es.length = i ∧ Aside0 (DecSt w B g w.heap.size b13 s 1 oI wr q uv vP vE al ps es) ∧ Aside0 (decL s n Oq 5 (N - i) i al ps es q = X)) (fun _ iv _ => N - (intOf iv).toNat)
  case atStart => exact ⟨0, .slice none 0 0, .slice none 0 0, [], [], [], q2, Nat.zero_le _, rfl, hat2, Nat.zero_le _, rfl, rfl, HST, ⟨by rw [Nat.sub_zero]; exact HX.out⟩⟩
  case round =>
    clear HST d1 HX
    obtain ⟨i, vP, vE, al, ps, es, q, hi, rfl, hq, hal, hps, hes, HST, HX⟩ := hrel
    have HPS := Aside0.mk hps
    have HES := Aside0.mk hes
    by_cases hlt : i < N
    · have i0 : (0 : Int) ≤ (i : Int) := by omega
      have i1 : (i : Int) < (N : Int) := by omega
      obtain ⟨d, hd⟩ : ∃ d, N - i = d + 1 := ⟨N - i - 1, by omega⟩
      have hd2 : N - (i + 1) = d := by omega
      have hmul : (i + 1) * n = i * n + n := Nat.succ_mul i n
      have hle : (i + 1) * n ≤ N * n := Nat.mul_le_mul_right n (by omega)
      have HLE := Aside0.mk (Nat.le_trans hle HNn.out)
      obtain ⟨k, hk⟩ : ∃ k, (if i = 0 then n - Oq else n) = k := ⟨_, rfl⟩
      have hkn : k ≤ n := by rw [← hk]; split <;> omega
      have HPART := Aside0.mk (partition_any5 s HS.out q hq k (by omega) B g hB wr HST.out.rd)
      have hpat := partR_at s q k 5 hq
      have hplen := partR_length s q k 5
      have HX2 : Aside0 ((if (partR s q k 5).2.2.2.1 = 0 then decL s n Oq 5 d (i + 1) (al ++ (partR s q k 5).1) (ps ++ [(partR s q k 5).2.1]) (es ++ [(partR s q k 5).2.2.1]) (partR s q k 5).2.2.2.2 else none) = X) := ⟨by
        have := HX.out
        rw [hd] at this
        unfold decL at this
        rw [hk] at this
        exact this⟩
      have hal2 : al.length + k ≤ 65535 := by have := HLE.out; omega
      have hal3 : al.length + k ≤ (i + 1) * n := by omega
      have HAL := Aside0.mk hal3
      have HD := Aside0.mk hd2
      clear HX hd hd2 hmul hle hal3 hal hps hes
      generalize partR s q k 5 = pr at HPART hpat hplen HX2
      obtain ⟨L, kk, ee, er, q9⟩ := pr
      simp only at HPART hpat hplen HX2
      have c0 := blk_cell HST.out.r13 0
      have c1 := blk_cell HST.out.r13 1
      have hk2 : ((i = 0 ∧ (n : Int) - (Oq : Int) = (k : Int)) ∨ (¬ (i : Int) = 0 ∧ (k : Int) = (n : Int))) := by
        by_cases h0 : i = 0
        · left
          rw [if_pos h0] at hk
          exact ⟨h0, by omega⟩
        · right
          rw [if_neg h0] at hk
          exact ⟨by omega, by omega⟩
      have HK := Aside0.mk hk
      clear hk
      rcases hk2 with ⟨hi0, hk2⟩ | ⟨hi0, hk2⟩
      · skip
        have hne : ((i : Int) == 0) = true := beq_iff_eq.mpr (by omega)
        clear hi0 HK
        obtain ⟨hsr, hr0⟩ := HRR.out
        go_wp2_with fail
        clear hsr hr0
        with_reducible refine HPART.out.mono ?_
        rintro e w6 ⟨v6, rfl, hl6, hr6, ht6⟩
        have hst6 := HST.out.turn hr6 ht6 hb7 (fun h => hg13 h.symm)
        have HL6 := Aside0.mk hl6
        have HST6 := Aside0.mk hst6
        have hsz6 := ht6.kept.1
        clear hl6 hr6 ht6 hst6 HPART c0 c1
        cases her : er == 0 with
        | false =>
          have HXN : Aside0 (X = none) := ⟨by have := HX2.out; rw [if_neg (by simpa using her)] at this; exact this.symm⟩
          go_wp2_with ((with_reducible refine wpList_store_row ?_ 24 (.tmp 7) (.tmp 102) ?_ w.heap.size zRice ?_ ?_ 24 zRice HST6.out.z7 (rc_info _ _ _ _) ?_ (rc_one _ _ _ _ _ _ _ _) ?_); rfl; rfl; rfl; rfl; rfl)
          refine bodyPost_ret (results_tct rfl _ _ w.heap.size 24 zRice (0, 0) _ rfl (setRow_heap _ _ _ _ _ _ HST6.out.z7) Try.underlying24 rfl (rc_info _ _ _ _)) rfl ?_
          exact .inl ⟨HXN.out, rfl, ⟨q9, HST6.out.rd.setRow hb7, hpat⟩, HST6.out.tn.setRow (Nat.le_refl _) hBw⟩
        | true =>
          have her2 : er = 0 := by simpa using her
          have HX3 : Aside0 (decL s n Oq 5 d (i + 1) (al ++ L) (ps ++ [kk]) (es ++ [ee]) q9 = X) := ⟨by have := HX2.out; rw [if_pos her2] at this; exact this⟩
          clear HX2 her2
          obtain ⟨A6, c6, e6, hc6, hC6⟩ := HL6.out.C
          subst e6
          have HC6 := Aside0.mk hC6
          have hCw6 : w.heap.size ≤ w6.heap.size := HST6.out.tn.kept.1
          clear hC6
          go_wp2_with (at_builtin; (with_reducible refine app_intlist (w0 := w6) (C := w.heap.size) (v := u14) (xs := al) (ys := L) (A := A6) (c := c6) (.tmp 103) (.tmp 104) ?_ ?_ ?_ ?_ ?_ ?_ ?_ ?_ ?_ ?_); rfl; rfl; rfl; rfl; exact HST6.out.U; exact HC6.out; exact Below.refl _ _; exact hCw6; omega; intro v7 w7 HI7 HB7 HG7 HO7)
          have HST7 := Aside0.mk (HST6.out.all hBw HI7.out HG7.out HO7.out)
          clear HI7 HB7 HG7 HO7 HST6 HC6 HL6
          have hst8 := HST7.out.below hB (below_drew (Below.refl w7.heap.size w7))
          have HST8 := Aside0.mk hst8
          have hst := TwoRows.start hst8.r13 (by decide) hst8.P hst8.E hst8.d3 hB13
          have hpl : ps.length ≤ 65536 := by have := HPS.out; omega
          have hel : es.length ≤ 65536 := by have := HES.out; omega
          clear hst8 HST7
          refine start_ (n := 14) (S := fun w' => w'.cell? ⟨b13, 2, none⟩ = some (vP) ∧ w'.cell? ⟨b13, 3, none⟩ = some (vE)) (ds := [11, 13]) #[false, false, false, false, false, false, false, false, false, false, false, false, false, false] (by kernel_rfl) rfl rfl ⟨blk_cell hst.box 2, blk_cell hst.box 3⟩ (fun hHeld => ?_)
          refine pure_ (i := 0) (N := some 106) (v := ?_) (a' := ?_) #[true, false, false, false, false, false, false, false, false, false, false, false, false, false] rfl rfl (by kernel_rfl) (fun _ _ _ h => h) (Or.inl ⟨by rfl, ?_⟩) ?_ ?_
          rotate_left
          · intro w'
            go_simp
            with_reducible rfl
          rotate_left
          · simp only [Act.put, List.setIfInBounds_toArray, List.set_cons_zero, List.set_cons_succ, i64_w, i32_w]
            rfl
          refine pure_ (i := 2) (N := some 108) (v := ?_) (a' := ?_) #[true, false, true, false, false, false, false, false, false, false, false, false, false, false] rfl rfl (by kernel_rfl) (fun _ _ _ h => h) (Or.inl ⟨by rfl, ?_⟩) ?_ ?_
          rotate_left
          · intro w'
            go_simp
            with_reducible rfl
          rotate_left
          · simp only [Act.put, List.setIfInBounds_toArray, List.set_cons_zero, List.set_cons_succ, i64_w, i32_w]
            rfl
          refine pure_ (i := 5) (N := some 111) (v := ?_) (a' := ?_) #[true, false, true, false, false, true, false, false, false, false, false, false, false, false] rfl rfl (by kernel_rfl) (fun _ _ _ h => h) (Or.inl ⟨by rfl, ?_⟩) ?_ ?_
          rotate_left
          · intro w'
            go_simp
            with_reducible rfl
          rotate_left
          · simp only [Act.put, List.setIfInBounds_toArray, List.set_cons_zero, List.set_cons_succ, i64_w, i32_w]
            rfl
          refine pure_ (i := 7) (N := some 113) (v := ?_) (a' := ?_) #[true, false, true, false, false, true, false, true, false, false, false, false, false, false] rfl rfl (by kernel_rfl) (fun _ _ _ h => h) (Or.inl ⟨by rfl, ?_⟩) ?_ ?_
          rotate_left
          · intro w'
            go_simp
            with_reducible rfl
          rotate_left
          · simp only [Act.put, List.setIfInBounds_toArray, List.set_cons_zero, List.set_cons_succ, i64_w, i32_w]
            rfl
          refine take_ (i := 1) (N := some 107) (v := ?_) (a' := ?_) #[true, true, true, false, false, true, false, true, false, false, false, false, false, false] rfl rfl (by kernel_rfl) (fun _ _ _ h => h) (Or.inl ⟨by rfl, ?_⟩) hHeld ?_ ?_
          rotate_left
          · rintro w' ⟨s0, s1⟩
            go_simp
            with_reducible rfl
          rotate_left
          · simp only [Act.put, List.setIfInBounds_toArray, List.set_cons_zero, List.set_cons_succ, i64_w, i32_w]
            rfl
          refine take_ (i := 6) (N := some 112) (v := ?_) (a' := ?_) #[true, true, true, false, false, true, true, true, false, false, false, false, false, false] rfl rfl (by kernel_rfl) (fun _ _ _ h => h) (Or.inl ⟨by rfl, ?_⟩) hHeld ?_ ?_
          rotate_left
          · rintro w' ⟨s0, s1⟩
            go_simp
            with_reducible rfl
          rotate_left
          · simp only [Act.put, List.setIfInBounds_toArray, List.set_cons_zero, List.set_cons_succ, i64_w, i32_w]
            rfl
          refine join_ (σ := Nat × Value × Nat) 4 #[true, true, true, true, true, true, true, true, true, false, true, false, false, false] (fun s_ => [(109, .slice (some ⟨s_.1, 0, none⟩) 1 1), (110, s_.2.1), (114, .slice (some ⟨s_.2.2, 0, none⟩) 1 1), (116, .pointer (some ⟨b13, 2, none⟩))]) (fun s_ w' => (w'.cell? ⟨b13, 2, none⟩ = some (vP) ∧ w'.cell? ⟨b13, 3, none⟩ = some (vE)) ∧ TwoRows w.heap.size b13 24 w7.drew (vP) (vE) w' #[.int .i64 1, .int .i64 oI, vP, vE] s_.2.1 (vE) (ps ++ [kk]) (es) ∧ w'.heap[s_.2.2]? = some (.cells #[.int .i64 (ee)] 3 (0, 0))) ?_ ?_
          rotate_left
          · intro hCont
            refine two_ (i := 3) (j := 8) (Ni := some 109) (Nj := some 114) #[true, true, true, true, false, true, true, true, false, false, false, false, false, false] #[true, true, true, false, false, true, true, true, true, false, false, false, false, false] rfl rfl rfl rfl (by kernel_rfl) (by decide) (by decide) (fun K hK => ?_) (fun K hK => ?_)
            · skip
              refine value_ (w1 := ?_) (v := ?_) (by rfl) rfl ?_ ?_
              rotate_left 2
              · go_simp
                constructor
                · rfl
                · rfl
              have hb1 : (w7.drew.alloc (.cells #[.int .i64 (kk)] 3 (0, 0))).heap[w7.heap.size]? = some (.cells #[.int .i64 (kk)] 3 (0, 0)) := by simpa using blk_new w7.drew (.cells #[.int .i64 (kk)] 3 (0, 0))
              have hs9 := hst.new (below_alloc (Below.refl _ _) (.cells #[.int .i64 (kk)] 3 (0, 0)))
              clear hst
              have hst := hs9
              clear hs9
              refine hK.out _ _ ⟨blk_cell hst.box 2, blk_cell hst.box 3⟩ (fun hHeld => ?_)
              clear hK K
              refine norm_ (a' := ?_) ?_ ?_
              rotate_left
              · show Act.put _ (some 109) _ = _
                simp only [Act.put, List.setIfInBounds_toArray, List.set_cons_zero, List.set_cons_succ, i64_w, i32_w]
                rfl
              refine two_ (i := 4) (j := 8) (Ni := some 110) (Nj := some 114) #[true, true, true, true, true, true, true, true, false, false, false, false, false, false] #[true, true, true, true, false, true, true, true, true, false, false, false, false, false] rfl rfl rfl rfl (by kernel_rfl) (by decide) (by decide) (fun K hK => ?_) (fun K hK => ?_)
              · skip
                refine app_lit_step (C := w.heap.size) (.tmp 107) (.tmp 109) (v := vP) (xs := ps) (kk) ?_ ?_ ?_ ?_ hst.P hb1 hst.le (by omega) ?_
                · rfl
                · rfl
                · rfl
                · rfl
                intro v1 w1 hr1 hg1 ho1
                have hs9 := hst.growP hr1 hg1 ho1
                clear hr1 hg1 ho1 hst hb1
                have hst := hs9
                clear hs9
                refine hK.out _ _ ⟨blk_cell hst.box 2, blk_cell hst.box 3⟩ (fun hHeld => ?_)
                clear hK K
                refine norm_ (a' := ?_) ?_ ?_
                rotate_left
                · show Act.put _ (some 110) _ = _
                  simp only [Act.put, List.setIfInBounds_toArray, List.set_cons_zero, List.set_cons_succ, i64_w, i32_w]
                  rfl
                refine pure_ (i := 10) (N := some 116) (v := ?_) (a' := ?_) #[true, true, true, true, true, true, true, true, false, false, true, false, false, false] rfl rfl (by kernel_rfl) (fun _ _ _ h => h) (Or.inl ⟨by rfl, ?_⟩) ?_ ?_
                rotate_left
                · intro w'
                  go_simp
                  with_reducible rfl
                rotate_left
                · simp only [Act.put, List.setIfInBounds_toArray, List.set_cons_zero, List.set_cons_succ, i64_w, i32_w]
                  rfl
                refine one_ (i := 8) (N := some 114) #[true, true, true, true, true, true, true, true, true, false, true, false, false, false] rfl rfl (by kernel_rfl) (by decide) (fun K hK => ?_)
                refine value_ (w1 := ?_) (v := ?_) (by rfl) rfl ?_ ?_
                rotate_left 2
                · go_simp
                  constructor
                  · rfl
                  · rfl
                have hb2 : (w1.alloc (.cells #[.int .i64 (ee)] 3 (0, 0))).heap[w1.heap.size]? = some (.cells #[.int .i64 (ee)] 3 (0, 0)) := by simpa using blk_new w1 (.cells #[.int .i64 (ee)] 3 (0, 0))
                have hs9 := hst.new (below_alloc (Below.refl _ _) (.cells #[.int .i64 (ee)] 3 (0, 0)))
                clear hst
                have hst := hs9
                clear hs9
                refine hK.out _ _ ⟨blk_cell hst.box 2, blk_cell hst.box 3⟩ (fun hHeld => ?_)
                clear hK K
                refine norm_ (a' := ?_) ?_ ?_
                rotate_left
                · show Act.put _ (some 114) _ = _
                  simp only [Act.put, List.setIfInBounds_toArray, List.set_cons_zero, List.set_cons_succ, i64_w, i32_w]
                  rfl
                exact norm_ (by simp only [putAll, Act.put, List.setIfInBounds_toArray, List.set_cons_zero, List.set_cons_succ]) (hCont (⟨w7.heap.size, v1, w1.heap.size⟩ : Nat × Value × Nat) _ ⟨⟨blk_cell hst.box 2, blk_cell hst.box 3⟩, hst, hb2⟩)
              · skip
                refine value_ (w1 := ?_) (v := ?_) (by rfl) rfl ?_ ?_
                rotate_left 2
                · go_simp
                  constructor
                  · rfl
                  · rfl
                have hb2 : ((w7.drew.alloc (.cells #[.int .i64 (kk)] 3 (0, 0))).alloc (.cells #[.int .i64 (ee)] 3 (0, 0))).heap[w7.heap.size + 1]? = some (.cells #[.int .i64 (ee)] 3 (0, 0)) := by simpa using blk_new (w7.drew.alloc (.cells #[.int .i64 (kk)] 3 (0, 0))) (.cells #[.int .i64 (ee)] 3 (0, 0))
                have hd2 : ∀ j, (vP).ownBlock = some j → j ≠ w7.heap.size + 1 := fun j hj => Nat.ne_of_lt (by have h9 := hst.P.lt j hj; simp at h9; omega)
                have hb1' : ((w7.drew.alloc (.cells #[.int .i64 (kk)] 3 (0, 0))).alloc (.cells #[.int .i64 (ee)] 3 (0, 0))).heap[_]? = some _ := blk_alloc hb1 (.cells #[.int .i64 (ee)] 3 (0, 0))
                clear hb1
                have hb1 := hb1'
                clear hb1'
                have hs9 := hst.new (below_alloc (Below.refl _ _) (.cells #[.int .i64 (ee)] 3 (0, 0)))
                clear hst
                have hst := hs9
                clear hs9
                refine hK.out _ _ ⟨blk_cell hst.box 2, blk_cell hst.box 3⟩ (fun hHeld => ?_)
                clear hK K
                refine norm_ (a' := ?_) ?_ ?_
                rotate_left
                · show Act.put _ (some 114) _ = _
                  simp only [Act.put, List.setIfInBounds_toArray, List.set_cons_zero, List.set_cons_succ, i64_w, i32_w]
                  rfl
                refine one_ (i := 4) (N := some 110) #[true, true, true, true, true, true, true, true, true, false, false, false, false, false] rfl rfl (by kernel_rfl) (by decide) (fun K hK => ?_)
                refine app_lit_step (C := w.heap.size) (.tmp 107) (.tmp 109) (v := vP) (xs := ps) (kk) ?_ ?_ ?_ ?_ hst.P hb1 hst.le (by omega) ?_
                · rfl
                · rfl
                · rfl
                · rfl
                intro v1 w1 hr1 hg1 ho1
                have hb2' := lit_kept hb2 hd2 hg1
                clear hb2 hd2
                have hb2 := hb2'
                clear hb2'
                have hs9 := hst.growP hr1 hg1 ho1
                clear hr1 hg1 ho1 hst hb1
                have hst := hs9
                clear hs9
                refine hK.out _ _ ⟨blk_cell hst.box 2, blk_cell hst.box 3⟩ (fun hHeld => ?_)
                clear hK K
                refine norm_ (a' := ?_) ?_ ?_
                rotate_left
                · show Act.put _ (some 110) _ = _
                  simp only [Act.put, List.setIfInBounds_toArray, List.set_cons_zero, List.set_cons_succ, i64_w, i32_w]
                  rfl
                refine pure_ (i := 10) (N := some 116) (v := ?_) (a' := ?_) #[true, true, true, true, true, true, true, true, true, false, true, false, false, false] rfl rfl (by kernel_rfl) (fun _ _ _ h => h) (Or.inl ⟨by rfl, ?_⟩) ?_ ?_
                rotate_left
                · intro w'
                  go_simp
                  with_reducible rfl
                rotate_left
                · simp only [Act.put, List.setIfInBounds_toArray, List.set_cons_zero, List.set_cons_succ, i64_w, i32_w]
                  rfl
                exact norm_ (by simp only [putAll, Act.put, List.setIfInBounds_toArray, List.set_cons_zero, List.set_cons_succ]) (hCont (⟨w7.heap.size, v1, w7.heap.size + 1⟩ : Nat × Value × Nat) _ ⟨⟨blk_cell hst.box 2, blk_cell hst.box 3⟩, hst, hb2⟩)
            · skip
              refine value_ (w1 := ?_) (v := ?_) (by rfl) rfl ?_ ?_
              rotate_left 2
              · go_simp
                constructor
                · rfl
                · rfl
              have hb2 : (w7.drew.alloc (.cells #[.int .i64 (ee)] 3 (0, 0))).heap[w7.heap.size]? = some (.cells #[.int .i64 (ee)] 3 (0, 0)) := by simpa using blk_new w7.drew (.cells #[.int .i64 (ee)] 3 (0, 0))
              have hd2 : ∀ j, (vP).ownBlock = some j → j ≠ w7.heap.size := fun j hj => Nat.ne_of_lt (by have h9 := hst.P.lt j hj; simp at h9; omega)
              have hs9 := hst.new (below_alloc (Below.refl _ _) (.cells #[.int .i64 (ee)] 3 (0, 0)))
              clear hst
              have hst := hs9
              clear hs9
              refine hK.out _ _ ⟨blk_cell hst.box 2, blk_cell hst.box 3⟩ (fun hHeld => ?_)
              clear hK K
              refine norm_ (a' := ?_) ?_ ?_
              rotate_left
              · show Act.put _ (some 114) _ = _
                simp only [Act.put, List.setIfInBounds_toArray, List.set_cons_zero, List.set_cons_succ, i64_w, i32_w]
                rfl
              refine one_ (i := 3) (N := some 109) #[true, true, true, true, false, true, true, true, true, false, false, false, false, false] rfl rfl (by kernel_rfl) (by decide) (fun K hK => ?_)
              refine value_ (w1 := ?_) (v := ?_) (by rfl) rfl ?_ ?_
              rotate_left 2
              · go_simp
                constructor
                · rfl
                · rfl
              have hb1 : ((w7.drew.alloc (.cells #[.int .i64 (ee)] 3 (0, 0))).alloc (.cells #[.int .i64 (kk)] 3 (0, 0))).heap[w7.heap.size + 1]? = some (.cells #[.int .i64 (kk)] 3 (0, 0)) := by simpa using blk_new (w7.drew.alloc (.cells #[.int .i64 (ee)] 3 (0, 0))) (.cells #[.int .i64 (kk)] 3 (0, 0))
              have hb2' : ((w7.drew.alloc (.cells #[.int .i64 (ee)] 3 (0, 0))).alloc (.cells #[.int .i64 (kk)] 3 (0, 0))).heap[_]? = some _ := blk_alloc hb2 (.cells #[.int .i64 (kk)] 3 (0, 0))
              clear hb2
              have hb2 := hb2'
              clear hb2'
              have hs9 := hst.new (below_alloc (Below.refl _ _) (.cells #[.int .i64 (kk)] 3 (0, 0)))
              clear hst
              have hst := hs9
              clear hs9
              refine hK.out _ _ ⟨blk_cell hst.box 2, blk_cell hst.box 3⟩ (fun hHeld => ?_)
              clear hK K
              refine norm_ (a' := ?_) ?_ ?_
              rotate_left
              · show Act.put _ (some 109) _ = _
                simp only [Act.put, List.setIfInBounds_toArray, List.set_cons_zero, List.set_cons_succ, i64_w, i32_w]
                rfl
              refine one_ (i := 4) (N := some 110) #[true, true, true, true, true, true, true, true, true, false, false, false, false, false] rfl rfl (by kernel_rfl) (by decide) (fun K hK => ?_)
              refine app_lit_step (C := w.heap.size) (.tmp 107) (.tmp 109) (v := vP) (xs := ps) (kk) ?_ ?_ ?_ ?_ hst.P hb1 hst.le (by omega) ?_
              · rfl
              · rfl
              · rfl
              · rfl
              intro v1 w1 hr1 hg1 ho1
              have hb2' := lit_kept hb2 hd2 hg1
              clear hb2 hd2
              have hb2 := hb2'
              clear hb2'
              have hs9 := hst.growP hr1 hg1 ho1
              clear hr1 hg1 ho1 hst hb1
              have hst := hs9
              clear hs9
              refine hK.out _ _ ⟨blk_cell hst.box 2, blk_cell hst.box 3⟩ (fun hHeld => ?_)
              clear hK K
              refine norm_ (a' := ?_) ?_ ?_
              rotate_left
              · show Act.put _ (some 110) _ = _
                simp only [Act.put, List.setIfInBounds_toArray, List.set_cons_zero, List.set_cons_succ, i64_w, i32_w]
                rfl
              refine pure_ (i := 10) (N := some 116) (v := ?_) (a' := ?_) #[true, true, true, true, true, true, true, true, true, false, true, false, false, false] rfl rfl (by kernel_rfl) (fun _ _ _ h => h) (Or.inl ⟨by rfl, ?_⟩) ?_ ?_
              rotate_left
              · intro w'
                go_simp
                with_reducible rfl
              rotate_left
              · simp only [Act.put, List.setIfInBounds_toArray, List.set_cons_zero, List.set_cons_succ, i64_w, i32_w]
                rfl
              exact norm_ (by simp only [putAll, Act.put, List.setIfInBounds_toArray, List.set_cons_zero, List.set_cons_succ]) (hCont (⟨w7.heap.size + 1, v1, w7.heap.size⟩ : Nat × Value × Nat) _ ⟨⟨blk_cell hst.box 2, blk_cell hst.box 3⟩, hst, hb2⟩)
          rintro ⟨b1, v1, b2⟩ w5 ⟨hHeld, hst, hb2⟩
          refine norm_ (a' := ?_) ?_ ?_
          rotate_left
          · simp only [putAll, Act.put, List.setIfInBounds_toArray, List.set_cons_zero, List.set_cons_succ]
            rfl
          refine one_ (i := 9) (N := some 115) #[true, true, true, true, true, true, true, true, true, true, true, false, false, false] rfl rfl (by kernel_rfl) (by decide) (fun K hK => ?_)
          refine app_lit_step (C := w.heap.size) (.tmp 112) (.tmp 114) (v := vE) (xs := es) (ee) ?_ ?_ ?_ ?_ hst.E hb2 hst.le (by omega) ?_
          · rfl
          · rfl
          · rfl
          · rfl
          intro v2 w6 hr2 hg2 ho2
          have hs9 := hst.growE hr2 hg2 ho2
          clear hr2 hg2 ho2 hst hb2
          have hst := hs9
          clear hs9
          obtain ⟨A1_, n1_, c1_, e1_⟩ := hst.P.shape
          subst e1_
          obtain ⟨A2_, n2_, c2_, e2_⟩ := hst.E.shape
          subst e2_
          have cP_ := blk_cell hst.box 2
          have cE_ := blk_cell hst.box 3
          have fP_ := blk_frozen hst.box 2
          have fE_ := blk_frozen hst.box 3
          refine hK.out _ _ ⟨blk_cell hst.box 2, blk_cell hst.box 3⟩ (fun hHeld => ?_)
          clear hK K
          refine norm_ (a' := ?_) ?_ ?_
          rotate_left
          · show Act.put _ (some 115) _ = _
            simp only [Act.put, List.setIfInBounds_toArray, List.set_cons_zero, List.set_cons_succ, i64_w, i32_w]
            rfl
          refine last_ (i := 11) (N := none) #[true, true, true, true, true, true, true, true, true, true, true, true, false, false] rfl rfl (by kernel_rfl) (by decide) (fun K hK => ?_)
          refine skip_ (w1 := ?_) (by rfl) rfl ?_ ?_
          rotate_left
          · go_simp
            rfl
          refine hK.out _ _ ?_
          clear hK K
          refine pure_ (i := 12) (N := some 117) (v := ?_) (a' := ?_) #[true, true, true, true, true, true, true, true, true, true, true, true, true, false] rfl rfl (by kernel_rfl) (fun _ _ _ h => h) (Or.inl ⟨by rfl, ?_⟩) ?_ ?_
          rotate_left
          · intro w'
            go_simp
            with_reducible rfl
          rotate_left
          · simp only [Act.put, List.setIfInBounds_toArray, List.set_cons_zero, List.set_cons_succ, i64_w, i32_w]
            rfl
          refine last_ (i := 13) (N := none) #[true, true, true, true, true, true, true, true, true, true, true, true, true, true] rfl rfl (by kernel_rfl) (by decide) (fun K hK => ?_)
          refine skip_ (w1 := ?_) (by rfl) rfl ?_ ?_
          rotate_left
          · go_simp
            rfl
          refine hK.out _ _ ?_
          clear hK K
          refine done_ (by kernel_rfl) ?_
          have hs9 := (hst.put 2 (.slice A1_ n1_ c1_) (cells2 := #[.int .i64 1, .int .i64 oI, (.slice A1_ n1_ c1_), vE]) rfl).put 3 (.slice A2_ n2_ c2_) (cells2 := #[.int .i64 1, .int .i64 oI, (.slice A1_ n1_ c1_), (.slice A2_ n2_ c2_)]) rfl
          clear hst cP_ cE_ fP_ fE_
          have hst := hs9
          clear hs9
          have HST9 := Aside0.mk (HST8.out.two h713 hg13 hBw hst)
          clear hst HST8
          go_wp2
          go_roundw
          case rel => exact ⟨i + 1, _, _, al ++ L, ps ++ [kk], es ++ [ee], q9, by omega, by go_num, hpat, by have := HAL.out; rw [List.length_append]; omega, by rw [List.length_append, HPS.out]; rfl, by rw [List.length_append, HES.out]; rfl, HST9, ⟨by rw [HD.out]; exact HX3.out⟩⟩
          case measure => simp [intOf]; omega
      · have hne : ((i : Int) == 0) = false := beq_eq_false_iff_ne.mpr hi0
        have hkn2 : n = k := by omega
        clear hk2 hi0 HK
        subst hkn2
        obtain ⟨hsr, hr0⟩ := HRR.out
        go_wp2_with fail
        clear hsr hr0
        with_reducible refine HPART.out.mono ?_
        rintro e w6 ⟨v6, rfl, hl6, hr6, ht6⟩
        have hst6 := HST.out.turn hr6 ht6 hb7 (fun h => hg13 h.symm)
        have HL6 := Aside0.mk hl6
        have HST6 := Aside0.mk hst6
        have hsz6 := ht6.kept.1
        clear hl6 hr6 ht6 hst6 HPART c0 c1
        cases her : er == 0 with
        | false =>
          have HXN : Aside0 (X = none) := ⟨by have := HX2.out; rw [if_neg (by simpa using her)] at this; exact this.symm⟩
          go_wp2_with ((with_reducible refine wpList_store_row ?_ 24 (.tmp 7) (.tmp 102) ?_ w.heap.size zRice ?_ ?_ 24 zRice HST6.out.z7 (rc_info _ _ _ _) ?_ (rc_one _ _ _ _ _ _ _ _) ?_); rfl; rfl; rfl; rfl; rfl)
          refine bodyPost_ret (results_tct rfl _ _ w.heap.size 24 zRice (0, 0) _ rfl (setRow_heap _ _ _ _ _ _ HST6.out.z7) Try.underlying24 rfl (rc_info _ _ _ _)) rfl ?_
          exact .inl ⟨HXN.out, rfl, ⟨q9, HST6.out.rd.setRow hb7, hpat⟩, HST6.out.tn.setRow (Nat.le_refl _) hBw⟩
        | true =>
          have her2 : er = 0 := by simpa using her
          have HX3 : Aside0 (decL s n Oq 5 d (i + 1) (al ++ L) (ps ++ [kk]) (es ++ [ee]) q9 = X) := ⟨by have := HX2.out; rw [if_pos her2] at this; exact this⟩
          clear HX2 her2
          obtain ⟨A6, c6, e6, hc6, hC6⟩ := HL6.out.C
          subst e6
          have HC6 := Aside0.mk hC6
          have hCw6 : w.heap.size ≤ w6.heap.size := HST6.out.tn.kept.1
          clear hC6
          go_wp2_with (at_builtin; (with_reducible refine app_intlist (w0 := w6) (C := w.heap.size) (v := u14) (xs := al) (ys := L) (A := A6) (c := c6) (.tmp 103) (.tmp 104) ?_ ?_ ?_ ?_ ?_ ?_ ?_ ?_ ?_ ?_); rfl; rfl; rfl; rfl; exact HST6.out.U; exact HC6.out; exact Below.refl _ _; exact hCw6; omega; intro v7 w7 HI7 HB7 HG7 HO7)
          have HST7 := Aside0.mk (HST6.out.all hBw HI7.out HG7.out HO7.out)
          clear HI7 HB7 HG7 HO7 HST6 HC6 HL6
          have hst8 := HST7.out.below hB (below_drew (Below.refl w7.heap.size w7))
          have HST8 := Aside0.mk hst8
          have hst := TwoRows.start hst8.r13 (by decide) hst8.P hst8.E hst8.d3 hB13
          have hpl : ps.length ≤ 65536 := by have := HPS.out; omega
          have hel : es.length ≤ 65536 := by have := HES.out; omega
          clear hst8 HST7
          refine start_ (n := 14) (S := fun w' => w'.cell? ⟨b13, 2, none⟩ = some (vP) ∧ w'.cell? ⟨b13, 3, none⟩ = some (vE)) (ds := [11, 13]) #[false, false, false, false, false, false, false, false, false, false, false, false, false, false] (by kernel_rfl) rfl rfl ⟨blk_cell hst.box 2, blk_cell hst.box 3⟩ (fun hHeld => ?_)
          refine pure_ (i := 0) (N := some 106) (v := ?_) (a' := ?_) #[true, false, false, false, false, false, false, false, false, false, false, false, false, false] rfl rfl (by kernel_rfl) (fun _ _ _ h => h) (Or.inl ⟨by rfl, ?_⟩) ?_ ?_
          rotate_left
          · intro w'
            go_simp
            with_reducible rfl
          rotate_left
          · simp only [Act.put, List.setIfInBounds_toArray, List.set_cons_zero, List.set_cons_succ, i64_w, i32_w]
            rfl
          refine pure_ (i := 2) (N := some 108) (v := ?_) (a' := ?_) #[true, false, true, false, false, false, false, false, false, false, false, false, false, false] rfl rfl (by kernel_rfl) (fun _ _ _ h => h) (Or.inl ⟨by rfl, ?_⟩) ?_ ?_
          rotate_left
          · intro w'
            go_simp
            with_reducible rfl
          rotate_left
          · simp only [Act.put, List.setIfInBounds_toArray, List.set_cons_zero, List.set_cons_succ, i64_w, i32_w]
            rfl
          refine pure_ (i := 5) (N := some 111) (v := ?_) (a' := ?_) #[true, false, true, false, false, true, false, false, false, false, false, false, false, false] rfl rfl (by kernel_rfl) (fun _ _ _ h => h) (Or.inl ⟨by rfl, ?_⟩) ?_ ?_
          rotate_left
          · intro w'
            go_simp
            with_reducible rfl
          rotate_left
          · simp only [Act.put, List.setIfInBounds_toArray, List.set_cons_zero, List.set_cons_succ, i64_w, i32_w]
            rfl
          refine pure_ (i := 7) (N := some 113) (v := ?_) (a' := ?_) #[true, false, true, false, false, true, false, true, false, false, false, false, false, false] rfl rfl (by kernel_rfl) (fun _ _ _ h => h) (Or.inl ⟨by rfl, ?_⟩) ?_ ?_
          rotate_left
          · intro w'
            go_simp
            with_reducible rfl
          rotate_left
          · simp only [Act.put, List.setIfInBounds_toArray, List.set_cons_zero, List.set_cons_succ, i64_w, i32_w]
            rfl
          refine take_ (i := 1) (N := some 107) (v := ?_) (a' := ?_) #[true, true, true, false, false, true, false, true, false, false, false, false, false, false] rfl rfl (by kernel_rfl) (fun _ _ _ h => h) (Or.inl ⟨by rfl, ?_⟩) hHeld ?_ ?_
          rotate_left
          · rintro w' ⟨s0, s1⟩
            go_simp
            with_reducible rfl
          rotate_left
          · simp only [Act.put, List.setIfInBounds_toArray, List.set_cons_zero, List.set_cons_succ, i64_w, i32_w]
            rfl
          refine take_ (i := 6) (N := some 112) (v := ?_) (a' := ?_) #[true, true, true, false, false, true, true, true, false, false, false, false, false, false] rfl rfl (by kernel_rfl) (fun _ _ _ h => h) (Or.inl ⟨by rfl, ?_⟩) hHeld ?_ ?_
          rotate_left
          · rintro w' ⟨s0, s1⟩
            go_simp
            with_reducible rfl
          rotate_left
          · simp only [Act.put, List.setIfInBounds_toArray, List.set_cons_zero, List.set_cons_succ, i64_w, i32_w]
            rfl
          refine join_ (σ := Nat × Value × Nat) 4 #[true, true, true, true, true, true, true, true, true, false, true, false, false, false] (fun s_ => [(109, .slice (some ⟨s_.1, 0, none⟩) 1 1), (110, s_.2.1), (114, .slice (some ⟨s_.2.2, 0, none⟩) 1 1), (116, .pointer (some ⟨b13, 2, none⟩))]) (fun s_ w' => (w'.cell? ⟨b13, 2, none⟩ = some (vP) ∧ w'.cell? ⟨b13, 3, none⟩ = some (vE)) ∧ TwoRows w.heap.size b13 24 w7.drew (vP) (vE) w' #[.int .i64 1, .int .i64 oI, vP, vE] s_.2.1 (vE) (ps ++ [kk]) (es) ∧ w'.heap[s_.2.2]? = some (.cells #[.int .i64 (ee)] 3 (0, 0))) ?_ ?_
          rotate_left
          · intro hCont
            refine two_ (i := 3) (j := 8) (Ni := some 109) (Nj := some 114) #[true, true, true, true, false, true, true, true, false, false, false, false, false, false] #[true, true, true, false, false, true, true, true, true, false, false, false, false, false] rfl rfl rfl rfl (by kernel_rfl) (by decide) (by decide) (fun K hK => ?_) (fun K hK => ?_)
            · skip
              refine value_ (w1 := ?_) (v := ?_) (by rfl) rfl ?_ ?_
              rotate_left 2
              · go_simp
                constructor
                · rfl
                · rfl
              have hb1 : (w7.drew.alloc (.cells #[.int .i64 (kk)] 3 (0, 0))).heap[w7.heap.size]? = some (.cells #[.int .i64 (kk)] 3 (0, 0)) := by simpa using blk_new w7.drew (.cells #[.int .i64 (kk)] 3 (0, 0))
              have hs9 := hst.new (below_alloc (Below.refl _ _) (.cells #[.int .i64 (kk)] 3 (0, 0)))
              clear hst
              have hst := hs9
              clear hs9
              refine hK.out _ _ ⟨blk_cell hst.box 2, blk_cell hst.box 3⟩ (fun hHeld => ?_)
              clear hK K
              refine norm_ (a' := ?_) ?_ ?_
              rotate_left
              · show Act.put _ (some 109) _ = _
                simp only [Act.put, List.setIfInBounds_toArray, List.set_cons_zero, List.set_cons_succ, i64_w, i32_w]
                rfl
              refine two_ (i := 4) (j := 8) (Ni := some 110) (Nj := some 114) #[true, true, true, true, true, true, true, true, false, false, false, false, false, false] #[true, true, true, true, false, true, true, true, true, false, false, false, false, false] rfl rfl rfl rfl (by kernel_rfl) (by decide) (by decide) (fun K hK => ?_) (fun K hK => ?_)
              · skip
                refine app_lit_step (C := w.heap.size) (.tmp 107) (.tmp 109) (v := vP) (xs := ps) (kk) ?_ ?_ ?_ ?_ hst.P hb1 hst.le (by omega) ?_
                · rfl
                · rfl
                · rfl
                · rfl
                intro v1 w1 hr1 hg1 ho1
                have hs9 := hst.growP hr1 hg1 ho1
                clear hr1 hg1 ho1 hst hb1
                have hst := hs9
                clear hs9
                refine hK.out _ _ ⟨blk_cell hst.box 2, blk_cell hst.box 3⟩ (fun hHeld => ?_)
                clear hK K
                refine norm_ (a' := ?_) ?_ ?_
                rotate_left
                · show Act.put _ (some 110) _ = _
                  simp only [Act.put, List.setIfInBounds_toArray, List.set_cons_zero, List.set_cons_succ, i64_w, i32_w]
                  rfl
                refine pure_ (i := 10) (N := some 116) (v := ?_) (a' := ?_) #[true, true, true, true, true, true, true, true, false, false, true, false, false, false] rfl rfl (by kernel_rfl) (fun _ _ _ h => h) (Or.inl ⟨by rfl, ?_⟩) ?_ ?_
                rotate_left
                · intro w'
                  go_simp
                  with_reducible rfl
                rotate_left
                · simp only [Act.put, List.setIfInBounds_toArray, List.set_cons_zero, List.set_cons_succ, i64_w, i32_w]
                  rfl
                refine one_ (i := 8) (N := some 114) #[true, true, true, true, true, true, true, true, true, false, true, false, false, false] rfl rfl (by kernel_rfl) (by decide) (fun K hK => ?_)
                refine value_ (w1 := ?_) (v := ?_) (by rfl) rfl ?_ ?_
                rotate_left 2
                · go_simp
                  constructor
                  · rfl
                  · rfl
                have hb2 : (w1.alloc (.cells #[.int .i64 (ee)] 3 (0, 0))).heap[w1.heap.size]? = some (.cells #[.int .i64 (ee)] 3 (0, 0)) := by simpa using blk_new w1 (.cells #[.int .i64 (ee)] 3 (0, 0))
                have hs9 := hst.new (below_alloc (Below.refl _ _) (.cells #[.int .i64 (ee)] 3 (0, 0)))
                clear hst
                have hst := hs9
                clear hs9
                refine hK.out _ _ ⟨blk_cell hst.box 2, blk_cell hst.box 3⟩ (fun hHeld => ?_)
                clear hK K
                refine norm_ (a' := ?_) ?_ ?_
                rotate_left
                · show Act.put _ (some 114) _ = _
                  simp only [Act.put, List.setIfInBounds_toArray, List.set_cons_zero, List.set_cons_succ, i64_w, i32_w]
                  rfl
                exact norm_ (by simp only [putAll, Act.put, List.setIfInBounds_toArray, List.set_cons_zero, List.set_cons_succ]) (hCont (⟨w7.heap.size, v1, w1.heap.size⟩ : Nat × Value × Nat) _ ⟨⟨blk_cell hst.box 2, blk_cell hst.box 3⟩, hst, hb2⟩)
              · skip
                refine value_ (w1 := ?_) (v := ?_) (by rfl) rfl ?_ ?_
                rotate_left 2
                · go_simp
                  constructor
                  · rfl
                  · rfl
                have hb2 : ((w7.drew.alloc (.cells #[.int .i64 (kk)] 3 (0, 0))).alloc (.cells #[.int .i64 (ee)] 3 (0, 0))).heap[w7.heap.size + 1]? = some (.cells #[.int .i64 (ee)] 3 (0, 0)) := by simpa using blk_new (w7.drew.alloc (.cells #[.int .i64 (kk)] 3 (0, 0))) (.cells #[.int .i64 (ee)] 3 (0, 0))
                have hd2 : ∀ j, (vP).ownBlock = some j → j ≠ w7.heap.size + 1 := fun j hj => Nat.ne_of_lt (by have h9 := hst.P.lt j hj; simp at h9; omega)
                have hb1' : ((w7.drew.alloc (.cells #[.int .i64 (kk)] 3 (0, 0))).alloc (.cells #[.int .i64 (ee)] 3 (0, 0))).heap[_]? = some _ := blk_alloc hb1 (.cells #[.int .i64 (ee)] 3 (0, 0))
                clear hb1
                have hb1 := hb1'
                clear hb1'
                have hs9 := hst.new (below_alloc (Below.refl _ _) (.cells #[.int .i64 (ee)] 3 (0, 0)))
                clear hst
                have hst := hs9
                clear hs9
                refine hK.out _ _ ⟨blk_cell hst.box 2, blk_cell hst.box 3⟩ (fun hHeld => ?_)
                clear hK K
                refine norm_ (a' := ?_) ?_ ?_
                rotate_left
                · show Act.put _ (some 114) _ = _
                  simp only [Act.put, List.setIfInBounds_toArray, List.set_cons_zero, List.set_cons_succ, i64_w, i32_w]
                  rfl
                refine one_ (i := 4) (N := some 110) #[true, true, true, true, true, true, true, true, true, false, false, false, false, false] rfl rfl (by kernel_rfl) (by decide) (fun K hK => ?_)
                refine app_lit_step (C := w.heap.size) (.tmp 107) (.tmp 109) (v := vP) (xs := ps) (kk) ?_ ?_ ?_ ?_ hst.P hb1 hst.le (by omega) ?_
                · rfl
                · rfl
                · rfl
                · rfl
                intro v1 w1 hr1 hg1 ho1
                have hb2' := lit_kept hb2 hd2 hg1
                clear hb2 hd2
                have hb2 := hb2'
                clear hb2'
                have hs9 := hst.growP hr1 hg1 ho1
                clear hr1 hg1 ho1 hst hb1
                have hst := hs9
                clear hs9
                refine hK.out _ _ ⟨blk_cell hst.box 2, blk_cell hst.box 3⟩ (fun hHeld => ?_)
                clear hK K
                refine norm_ (a' := ?_) ?_ ?_
                rotate_left
                · show Act.put _ (some 110) _ = _
                  simp only [Act.put, List.setIfInBounds_toArray, List.set_cons_zero, List.set_cons_succ, i64_w, i32_w]
                  rfl
                refine pure_ (i := 10) (N := some 116) (v := ?_) (a' := ?_) #[true, true, true, true, true, true, true, true, true, false, true, false, false, false] rfl rfl (by kernel_rfl) (fun _ _ _ h => h) (Or.inl ⟨by rfl, ?_⟩) ?_ ?_
                rotate_left
                · intro w'
                  go_simp
                  with_reducible rfl
                rotate_left
                · simp only [Act.put, List.setIfInBounds_toArray, List.set_cons_zero, List.set_cons_succ, i64_w, i32_w]
                  rfl
                exact norm_ (by simp only [putAll, Act.put, List.setIfInBounds_toArray, List.set_cons_zero, List.set_cons_succ]) (hCont (⟨w7.heap.size, v1, w7.heap.size + 1⟩ : Nat × Value × Nat) _ ⟨⟨blk_cell hst.box 2, blk_cell hst.box 3⟩, hst, hb2⟩)
            · skip
              refine value_ (w1 := ?_) (v := ?_) (by rfl) rfl ?_ ?_
              rotate_left 2
              · go_simp
                constructor
                · rfl
                · rfl
              have hb2 : (w7.drew.alloc (.cells #[.int .i64 (ee)] 3 (0, 0))).heap[w7.heap.size]? = some (.cells #[.int .i64 (ee)] 3 (0, 0)) := by simpa using blk_new w7.drew (.cells #[.int .i64 (ee)] 3 (0, 0))
              have hd2 : ∀ j, (vP).ownBlock = some j → j ≠ w7.heap.size := fun j hj => Nat.ne_of_lt (by have h9 := hst.P.lt j hj; simp at h9; omega)
              have hs9 := hst.new (below_alloc (Below.refl _ _) (.cells #[.int .i64 (ee)] 3 (0, 0)))
              clear hst
              have hst := hs9
              clear hs9
              refine hK.out _ _ ⟨blk_cell hst.box 2, blk_cell hst.box 3⟩ (fun hHeld => ?_)
              clear hK K
              refine norm_ (a' := ?_) ?_ ?_
              rotate_left
              · show Act.put _ (some 114) _ = _
                simp only [Act.put, List.setIfInBounds_toArray, List.set_cons_zero, List.set_cons_succ, i64_w, i32_w]
                rfl
              refine one_ (i := 3) (N := some 109) #[true, true, true, true, false, true, true, true, true, false, false, false, false, false] rfl rfl (by kernel_rfl) (by decide) (fun K hK => ?_)
              refine value_ (w1 := ?_) (v := ?_) (by rfl) rfl ?_ ?_
              rotate_left 2
              · go_simp
                constructor
                · rfl
                · rfl
              have hb1 : ((w7.drew.alloc (.cells #[.int .i64 (ee)] 3 (0, 0))).alloc (.cells #[.int .i64 (kk)] 3 (0, 0))).heap[w7.heap.size + 1]? = some (.cells #[.int .i64 (kk)] 3 (0, 0)) := by simpa using blk_new (w7.drew.alloc (.cells #[.int .i64 (ee)] 3 (0, 0))) (.cells #[.int .i64 (kk)] 3 (0, 0))
              have hb2' : ((w7.drew.alloc (.cells #[.int .i64 (ee)] 3 (0, 0))).alloc (.cells #[.int .i64 (kk)] 3 (0, 0))).heap[_]? = some _ := blk_alloc hb2 (.cells #[.int .i64 (kk)] 3 (0, 0))
              clear hb2
              have hb2 := hb2'
              clear hb2'
              have hs9 := hst.new (below_alloc (Below.refl _ _) (.cells #[.int .i64 (kk)] 3 (0, 0)))
              clear hst
              have hst := hs9
              clear hs9
              refine hK.out _ _ ⟨blk_cell hst.box 2, blk_cell hst.box 3⟩ (fun hHeld => ?_)
              clear hK K
              refine norm_ (a' := ?_) ?_ ?_
              rotate_left
              · show Act.put _ (some 109) _ = _
                simp only [Act.put, List.setIfInBounds_toArray, List.set_cons_zero, List.set_cons_succ, i64_w, i32_w]
                rfl
              refine one_ (i := 4) (N := some 110) #[true, true, true, true, true, true, true, true, true, false, false, false, false, false] rfl rfl (by kernel_rfl) (by decide) (fun K hK => ?_)
              refine app_lit_step (C := w.heap.size) (.tmp 107) (.tmp 109) (v := vP) (xs := ps) (kk) ?_ ?_ ?_ ?_ hst.P hb1 hst.le (by omega) ?_
              · rfl
              · rfl
              · rfl
              · rfl
              intro v1 w1 hr1 hg1 ho1
              have hb2' := lit_kept hb2 hd2 hg1
              clear hb2 hd2
              have hb2 := hb2'
              clear hb2'
              have hs9 := hst.growP hr1 hg1 ho1
              clear hr1 hg1 ho1 hst hb1
              have hst := hs9
              clear hs9
              refine hK.out _ _ ⟨blk_cell hst.box 2, blk_cell hst.box 3⟩ (fun hHeld => ?_)
              clear hK K
              refine norm_ (a' := ?_) ?_ ?_
              rotate_left
              · show Act.put _ (some 110) _ = _
                simp only [Act.put, List.setIfInBounds_toArray, List.set_cons_zero, List.set_cons_succ, i64_w, i32_w]
                rfl
              refine pure_ (i := 10) (N := some 116) (v := ?_) (a' := ?_) #[true, true, true, true, true, true, true, true, true, false, true, false, false, false] rfl rfl (by kernel_rfl) (fun _ _ _ h => h) (Or.inl ⟨by rfl, ?_⟩) ?_ ?_
              rotate_left
              · intro w'
                go_simp
                with_reducible rfl
              rotate_left
              · simp only [Act.put, List.setIfInBounds_toArray, List.set_cons_zero, List.set_cons_succ, i64_w, i32_w]
                rfl
              exact norm_ (by simp only [putAll, Act.put, List.setIfInBounds_toArray, List.set_cons_zero, List.set_cons_succ]) (hCont (⟨w7.heap.size + 1, v1, w7.heap.size⟩ : Nat × Value × Nat) _ ⟨⟨blk_cell hst.box 2, blk_cell hst.box 3⟩, hst, hb2⟩)
          rintro ⟨b1, v1, b2⟩ w5 ⟨hHeld, hst, hb2⟩
          refine norm_ (a' := ?_) ?_ ?_
          rotate_left
          · simp only [putAll, Act.put, List.setIfInBounds_toArray, List.set_cons_zero, List.set_cons_succ]
            rfl
          refine one_ (i := 9) (N := some 115) #[true, true, true, true, true, true, true, true, true, true, true, false, false, false] rfl rfl (by kernel_rfl) (by decide) (fun K hK => ?_)
          refine app_lit_step (C := w.heap.size) (.tmp 112) (.tmp 114) (v := vE) (xs := es) (ee) ?_ ?_ ?_ ?_ hst.E hb2 hst.le (by omega) ?_
          · rfl
          · rfl
          · rfl
          · rfl
          intro v2 w6 hr2 hg2 ho2
          have hs9 := hst.growE hr2 hg2 ho2
          clear hr2 hg2 ho2 hst hb2
          have hst := hs9
          clear hs9
          obtain ⟨A1_, n1_, c1_, e1_⟩ := hst.P.shape
          subst e1_
          obtain ⟨A2_, n2_, c2_, e2_⟩ := hst.E.shape
          subst e2_
          have cP_ := blk_cell hst.box 2
          have cE_ := blk_cell hst.box 3
          have fP_ := blk_frozen hst.box 2
          have fE_ := blk_frozen hst.box 3
          refine hK.out _ _ ⟨blk_cell hst.box 2, blk_cell hst.box 3⟩ (fun hHeld => ?_)
          clear hK K
          refine norm_ (a' := ?_) ?_ ?_
          rotate_left
          · show Act.put _ (some 115) _ = _
            simp only [Act.put, List.setIfInBounds_toArray, List.set_cons_zero, List.set_cons_succ, i64_w, i32_w]
            rfl
          refine last_ (i := 11) (N := none) #[true, true, true, true, true, true, true, true, true, true, true, true, false, false] rfl rfl (by kernel_rfl) (by decide) (fun K hK => ?_)
          refine skip_ (w1 := ?_) (by rfl) rfl ?_ ?_
          rotate_left
          · go_simp
            rfl
          refine hK.out _ _ ?_
          clear hK K
          refine pure_ (i := 12) (N := some 117) (v := ?_) (a' := ?_) #[true, true, true, true, true, true, true, true, true, true, true, true, true, false] rfl rfl (by kernel_rfl) (fun _ _ _ h => h) (Or.inl ⟨by rfl, ?_⟩) ?_ ?_
          rotate_left
          · intro w'
            go_simp
            with_reducible rfl
          rotate_left
          · simp only [Act.put, List.setIfInBounds_toArray, List.set_cons_zero, List.set_cons_succ, i64_w, i32_w]
            rfl
          refine last_ (i := 13) (N := none) #[true, true, true, true, true, true, true, true, true, true, true, true, true, true] rfl rfl (by kernel_rfl) (by decide) (fun K hK => ?_)
          refine skip_ (w1 := ?_) (by rfl) rfl ?_ ?_
          rotate_left
          · go_simp
            rfl
          refine hK.out _ _ ?_
          clear hK K
          refine done_ (by kernel_rfl) ?_
          have hs9 := (hst.put 2 (.slice A1_ n1_ c1_) (cells2 := #[.int .i64 1, .int .i64 oI, (.slice A1_ n1_ c1_), vE]) rfl).put 3 (.slice A2_ n2_ c2_) (cells2 := #[.int .i64 1, .int .i64 oI, (.slice A1_ n1_ c1_), (.slice A2_ n2_ c2_)]) rfl
          clear hst cP_ cE_ fP_ fE_
          have hst := hs9
          clear hs9
          have HST9 := Aside0.mk (HST8.out.two h713 hg13 hBw hst)
          clear hst HST8
          go_wp2
          go_roundw
          case rel => exact ⟨i + 1, _, _, al ++ L, ps ++ [kk], es ++ [ee], q9, by omega, by go_num, hpat, by have := HAL.out; rw [List.length_append]; omega, by rw [List.length_append, HPS.out]; rfl, by rw [List.length_append, HES.out]; rfl, HST9, ⟨by rw [HD.out]; exact HX3.out⟩⟩
          case measure => simp [intOf]; omega
    · obtain rfl : i = N := by omega
      have hXS : X = some (al, ps, es, q) := by have := HX.out; rw [Nat.sub_self] at this; exact this.symm
      have HXS := Aside0.mk hXS
      clear hXS HX
      obtain ⟨AP_, nP_, cP_, eP_⟩ := HST.out.P.shape
      subst eP_
      obtain ⟨AE_, nE_, cE_, eE_⟩ := HST.out.E.shape
      subst eE_
      have i2 : ¬ (i : Int) < (i : Int) := Int.lt_irrefl _
      have hst := HST.out.below hB (below_drew (Below.refl wr.heap.size wr))
      clear HST
      go_wp2
      refine start_ (n := 5) (S := fun w' => w'.cell? ⟨b13, 0, none⟩ = some (.int .i64 1) ∧ w'.cell? ⟨b13, 1, none⟩ = some (.int .i64 oI) ∧ w'.cell? ⟨b13, 2, none⟩ = some (.slice AP_ nP_ cP_) ∧ w'.cell? ⟨b13, 3, none⟩ = some (.slice AE_ nE_ cE_)) (ds := [3]) #[false, false, false, false, false] (by kernel_rfl) rfl rfl ⟨blk_cell hst.r13 0, blk_cell hst.r13 1, blk_cell hst.r13 2, blk_cell hst.r13 3⟩ (fun hHeld => ?_)
      refine pure_ (i := 0) (N := some 119) (v := ?_) (a' := ?_) #[true, false, false, false, false] rfl rfl (by kernel_rfl) (fun _ _ _ h => h) (Or.inl ⟨by rfl, ?_⟩) ?_ ?_
      rotate_left
      · intro w'
        go_simp
        with_reducible rfl
      rotate_left
      · simp only [Act.put, List.setIfInBounds_toArray, List.set_cons_zero, List.set_cons_succ, i64_w, i32_w]
        rfl
      refine pure_ (i := 2) (N := some 6) (v := ?_) (a' := ?_) #[true, false, true, false, false] rfl rfl (by kernel_rfl) (fun _ _ _ h => h) (Or.inl ⟨by rfl, ?_⟩) ?_ ?_
      rotate_left
      · intro w'
        go_simp
        with_reducible rfl
      rotate_left
      · simp only [Act.put, List.setIfInBounds_toArray, List.set_cons_zero, List.set_cons_succ, i64_w, i32_w]
        rfl
      refine take_ (i := 1) (N := some 120) (v := ?_) (a' := ?_) #[true, true, true, false, false] rfl rfl (by kernel_rfl) (fun _ _ _ h => h) (Or.inl ⟨by rfl, ?_⟩) hHeld ?_ ?_
      rotate_left
      · rintro w' ⟨s0, s1, s2, s3⟩
        go_simp
        with_reducible rfl
      rotate_left
      · simp only [Act.put, List.setIfInBounds_toArray, List.set_cons_zero, List.set_cons_succ, i64_w, i32_w]
        rfl
      refine last_ (i := 3) (N := none) #[true, true, true, true, false] rfl rfl (by kernel_rfl) (by decide) (fun K hK => ?_)
      refine store_row_step 24 (.tmp 7) (.tmp 120) ?_ ?_ w.heap.size #[.int .i64 1, .int .i64 oI, .slice AP_ nP_ cP_, .slice AE_ nE_ cE_] ?_ ?_ 24 zRice hst.z7 (rc_info _ _ _ _) ?_ (rc_one _ _ _ _ _ _ _ _) ?_
      · rfl
      · rfl
      · rfl
      · rfl
      · rfl
      refine hK.out _ _ ?_
      clear hK K
      refine pure_ (i := 4) (N := some 8) (v := ?_) (a' := ?_) #[true, true, true, true, true] rfl rfl (by kernel_rfl) (fun _ _ _ h => h) (Or.inl ⟨by rfl, ?_⟩) ?_ ?_
      rotate_left
      · intro w'
        go_simp
        with_reducible rfl
      rotate_left
      · simp only [Act.put, List.setIfInBounds_toArray, List.set_cons_zero, List.set_cons_succ, i64_w, i32_w]
        rfl
      refine done_ (by kernel_rfl) ?_

      go_wp2
      refine bodyPost_ret (results_tct rfl _ _ w.heap.size 24 #[.int .i64 1, .int .i64 oI, .slice AP_ nP_ cP_, .slice AE_ nE_ cE_] (0, 0) _ rfl (setRow_heap _ _ _ _ _ _ hst.z7) Try.underlying24 rfl (rc_info _ _ _ _)) rfl ?_
      exact .inr ⟨al, ps, es, q, _, _, _, HXS.out, rfl, hst.U.setRow hst.z7 (by decide), hst.P.setRow hst.z7 (by decide), hst.E.setRow hst.z7 (by decide), hst.rd.setRow hb7, hq, hst.tn.setRow (Nat.le_refl _) hBw⟩
end Go.Proofs.Ytfhekkoibmlmpaa.Hand

/- Contracts of layer 8, proved by hand: Encode and Decode, whole. -/
namespace Go.Proofs.Ytfhekkoibmlmpaa.Hand
open Go.RowKit Go.Proofs.Ytfhekkoibmlmpaa.Q Go.Proofs.YtfhekkoibmlmpaaW.PrintWords Go.Proofs.YtfhekkoibmlmpaaW.PrintLast Go.Proofs.YtfhekkoibmlmpaaW.PrintMore
set_option linter.unusedVariables false
set_option linter.unusedSimpArgs false

/-- A shape that may be, in natural numbers. -/
theorem shape_nat {m o block order : Int} (h : shapeP m o block order) : ∃ O Bk Od n : Nat, o = O ∧ block = Bk ∧ order = Od ∧ O ≤ 15 ∧ 1 ≤ Bk ∧ Bk ≤ 65535 ∧ Od ≤ 32 ∧ Bk = 2 ^ O * n ∧ Od ≤ n ∧ (block / 2 ^ o.toNat).toNat = n ∧ (m = 0 ∨ m = 1) := by
  obtain ⟨hm, o0, o1, b0, b1, d0, d1, h8, h9⟩ := h
  obtain ⟨O, rfl⟩ := Int.eq_ofNat_of_zero_le o0
  obtain ⟨Bk, rfl⟩ := Int.eq_ofNat_of_zero_le (show 0 ≤ block by omega)
  obtain ⟨Od, rfl⟩ := Int.eq_ofNat_of_zero_le d0
  rw [Int.toNat_natCast] at h8 h9
  have e : (2 : Int) ^ O = ((2 ^ O : Nat) : Int) := by simp
  rw [e] at h8 h9
  rw [← Int.natCast_emod] at h8
  rw [← Int.natCast_ediv] at h9
  have h8' : Bk % 2 ^ O = 0 := by exact_mod_cast h8
  have h9' : Od ≤ Bk / 2 ^ O := by exact_mod_cast h9
  refine ⟨O, Bk, Od, Bk / 2 ^ O, rfl, rfl, rfl, by omega, by omega, by omega, by omega, ?_, h9', ?_, hm⟩
  · have := Nat.div_add_mod Bk (2 ^ O)
    omega
  · rw [Int.toNat_natCast, e, ← Int.natCast_ediv, Int.toNat_natCast]
theorem Encode_any (m o block order : Int) (AP AE A : Option Addr) (cP cE c : Nat) (ps es l : List Int) (bs : List Bool) (B g : Nat) (v : Value) (w : World) (m0 : -9223372036854775808 ≤ m) (m1 : m ≤ 9223372036854775807) (hin : ∀ x ∈ l, -9223372036854775808 ≤ x ∧ x ≤ 9223372036854775807)
    (hcP : ps.length ≤ cP) (hcE : es.length ≤ cE) (hc : l.length ≤ c) (hW : WAt w B g v bs) (hP : ListAt w g v AP ps) (hE : ListAt w g v AE es) (hA : ListAt w g v A l) (hbs : bs.length + 4398046511104 < 1125899906842624) :
    Calls Try.prog 13 #[.pointer (some ⟨g, 0, none⟩), .agg #[.int .i64 m, .int .i64 o, .slice AP ps.length cP, .slice AE es.length cE], .int .i64 block, .int .i64 order, .slice A l.length c] w
      fun e w' => e = .returned (.int .i64 (if canE m o ps es block order l then 0 else 60)) ∧ ∃ v', WAt w' B g v' (if canE m o ps es block order l then bs ++ bitsE m o ps es block order l else bs) ∧ Moved B g w v w' v' := by
  have hBw : B ≤ w.heap.size := by have := hW.lt; have := hW.2.2; omega
  have hno : ∀ {Q : World → Prop}, ¬ canE m o ps es block order l → (Calls Try.prog 13 #[.pointer (some ⟨g, 0, none⟩), .agg #[.int .i64 m, .int .i64 o, .slice AP ps.length cP, .slice AE es.length cE], .int .i64 block, .int .i64 order, .slice A l.length c] w fun e w' => e = .returned (.int .i64 60) ∧ Below w.heap.size w w') →
      Calls Try.prog 13 #[.pointer (some ⟨g, 0, none⟩), .agg #[.int .i64 m, .int .i64 o, .slice AP ps.length cP, .slice AE es.length cE], .int .i64 block, .int .i64 order, .slice A l.length c] w
      fun e w' => e = .returned (.int .i64 (if canE m o ps es block order l then 0 else 60)) ∧ ∃ v', WAt w' B g v' (if canE m o ps es block order l then bs ++ bitsE m o ps es block order l else bs) ∧ Moved B g w v w' v' := fun hn hcall => by
    rw [if_neg hn, if_neg hn]
    exact hcall.mono fun e w' ⟨h1, h2⟩ => ⟨h1, v, hW.below h2, (Moved.refl B g w v).new h2 hBw⟩
  by_cases hck : checkP m o ps es block order
  · by_cases hlen : (l.length : Int) = block - order
    · obtain ⟨O, Bk, Od, n, rfl, rfl, rfl, hO, hB0, hB1, hOd, hdiv, hdn, hn, hm⟩ := shape_nat hck.1
      have hps : ps.length = 2 ^ O := by have := hck.2.1; rwa [Int.toNat_natCast] at this
      have hes : es.length = 2 ^ O := by have := hck.2.2.1; rwa [Int.toNat_natCast] at this
      have hl : l.length + Od = Bk := by omega
      by_cases hall : allMay n Od ps es l ps.length = true
      · have hcan : canE m O ps es Bk Od l := ⟨hck, hlen, by rw [hn, Int.toNat_natCast]; exact hall⟩
        rw [if_pos hcan, if_pos hcan]
        have hbits : bitsE m O ps es Bk Od l = nbits m.toNat 2 ++ (nbits O 4 ++ partsX (4 + m.toNat) n Od ps es l ps.length) := by
          unfold bitsE
          rw [hn, Int.toNat_natCast, Int.toNat_natCast]
        rw [hbits]
        rcases hm with rfl | rfl
        · exact Encode_yes0 O n Bk Od AP AE A cP cE c ps es l bs B g v w hO hB1 hOd hdiv hdn hl hps hes hck.2.2.2 hin hcP hcE hc hW hP hE hA hck hall hbs
        · exact Encode_yes1 O n Bk Od AP AE A cP cE c ps es l bs B g v w hO hB1 hOd hdiv hdn hl hps hes hck.2.2.2 hin hcP hcE hc hW hP hE hA hck hall hbs
      · refine hno (Q := fun _ => True) (fun h => hall (by have := h.2.2; rw [hn, Int.toNat_natCast] at this; exact this)) ?_
        exact Encode_may m O n Bk Od AP AE A cP cE c ps es l g w hm hO hB1 hOd hdiv hdn hl hps hes hck.2.2.2 hin hcP hcE hc hP.1 hE.1 hA.1 hck hall
    · exact hno (Q := fun _ => True) (fun h => hlen h.2.1) (Encode_no m o AP AE A cP cE c ps es l block order g w hP.1 hcP hE.1 hcE m0 m1 (.inr ⟨hlen, hck⟩))
  · exact hno (Q := fun _ => True) (fun h => hck h.1) (Encode_no m o AP AE A cP cE c ps es l block order g w hP.1 hcP hE.1 hcE m0 m1 (.inl hck))
/-- What Decode tells: the residuals and the recipe, the error, the place. -/
def decX (s : ByteArray) (p : Nat) (block order : Int) : Option (List Int × List Int × List Int × Nat) :=
  decL s (block / 2 ^ (getR s (getR s p 2).2.2 4).1).toNat order.toNat (4 + (getR s p 2).1) (2 ^ (getR s (getR s p 2).2.2 4).1) 0 [] [] [] (getR s (getR s p 2).2.2 4).2.2
def headD (s : ByteArray) (p : Nat) (block order : Int) : Prop := (getR s p 2).2.1 = 0 ∧ (getR s (getR s p 2).2.2 4).2.1 = 0 ∧ shapeP (getR s p 2).1 (getR s (getR s p 2).2.2 4).1 block order
instance (s : ByteArray) (p : Nat) (block order : Int) : Decidable (headD s p block order) := by unfold headD; infer_instance
/-- The method, the order, the residuals, the parameters, the escapes, the error, the place (where there is no error). -/
def decF (s : ByteArray) (p : Nat) (block order : Int) : Int × Int × List Int × List Int × List Int × Int × Nat :=
  if badArgs block order then (0, 0, [], [], [], 1, p)
  else if headD s p block order then
    match decX s p block order with
    | none => (0, 0, [], [], [], 2, p)
    | some (al, ps, es, q) => ((getR s p 2).1, (getR s (getR s p 2).2.2 4).1, al, ps, es, 0, q)
  else (0, 0, [], [], [], 2, p)
theorem Decode_any (s : ByteArray) (hs : s.size ≤ 281474976710656) (p : Nat) (hp : p ≤ 8 * s.size) (block order : Int) (B g : Nat) (hB : B ≤ g) (w : World) (hBw : B ≤ w.heap.size) (hR : RAt w g s p) :
    Calls Try.prog 21 #[.pointer (some ⟨g, 0, none⟩), .int .i64 block, .int .i64 order] w fun e w' => ∃ vl vP vE,
      e = .returned (.tuple #[vl, .agg #[.int .i64 (decF s p block order).1, .int .i64 (decF s p block order).2.1, vP, vE], .int .i64 (decF s p block order).2.2.2.2.2.1]) ∧
      IntsAt w' w.heap.size vl (decF s p block order).2.2.1 ∧ IntsAt w' w.heap.size vP (decF s p block order).2.2.2.1 ∧ IntsAt w' w.heap.size vE (decF s p block order).2.2.2.2.1 ∧
      (∃ q, RAt w' g s q ∧ q ≤ 8 * s.size ∧ ((decF s p block order).2.2.2.2.2.1 = 0 → q = (decF s p block order).2.2.2.2.2.2)) ∧ Turned B g w w' := by
  by_cases hbad : badArgs block order
  · have e : decF s p block order = (0, 0, [], [], [], 1, p) := if_pos hbad
    rw [e]
    refine (Decode_arg block order _ w (.inr ⟨g, rfl, hbad⟩)).mono fun e w' ⟨h1, h2⟩ => ?_
    exact ⟨_, _, _, h1, IntsAt.nil _ _, IntsAt.nil _ _, IntsAt.nil _ _, ⟨p, hR.below h2, hp, fun _ => rfl⟩, (Turned.refl B g w).new h2 hBw⟩
  · by_cases hh : headD s p block order
    · have e : decF s p block order = match decX s p block order with
        | none => (0, 0, [], [], [], 2, p)
        | some (al, ps, es, q) => ((getR s p 2).1, (getR s (getR s p 2).2.2 4).1, al, ps, es, 0, q) := (if_neg hbad).trans (if_pos hh)
      rw [e]
      clear e
      obtain ⟨h1, h2, hsh⟩ := hh
      obtain ⟨O, Bk, Od, n, hO, rfl, rfl, hO15, hB0, hB1, hOd, hdiv, hdn, hn, hm⟩ := shape_nat hsh
      have hO2 : (getR s (getR s p 2).2.2 4).1 = O := by omega
      have hX : decX s p Bk Od = decL s n Od (4 + (getR s p 2).1) (2 ^ (getR s (getR s p 2).2.2 4).1) 0 [] [] [] (getR s (getR s p 2).2.2 4).2.2 := by
        unfold decX
        rw [Int.toNat_natCast] at hn
        rw [hn, Int.toNat_natCast]
      rw [← hO2] at hdiv
      have key : Calls Try.prog 21 #[.pointer (some ⟨g, 0, none⟩), .int .i64 Bk, .int .i64 Od] w (DecPost s (getR s p 2).1 (getR s (getR s p 2).2.2 4).1 (decX s p Bk Od) w.heap.size B g w) := by
        rw [hX]
        rcases hm with hm | hm
        · have hm2 : (getR s p 2).1 = 0 := by omega
          have := Decode_go0 s hs p hp Bk Od n hbad B g hB w hBw hR h1 h2 hm2 (by rw [← hm]; exact hsh) hdiv hdn
          rw [hm2]
          exact this
        · have hm2 : (getR s p 2).1 = 1 := by omega
          have := Decode_go1 s hs p hp Bk Od n hbad B g hB w hBw hR h1 h2 hm2 (by rw [← hm]; exact hsh) hdiv hdn
          rw [hm2]
          exact this
      refine key.mono fun e w' hpost => ?_
      rcases hpost with ⟨hx, he, ⟨q, hr, hq⟩, ht⟩ | ⟨al, ps, es, q, vl, vP, vE, hx, he, hl, hp', he', hr, hq, ht⟩
      · rw [hx]
        exact ⟨_, _, _, he, IntsAt.nil _ _, IntsAt.nil _ _, IntsAt.nil _ _, ⟨q, hr, hq, fun h => by cases h⟩, ht⟩
      · rw [hx]
        exact ⟨_, _, _, he, hl, hp', he', ⟨q, hr, hq, fun _ => rfl⟩, ht⟩
    · have e : decF s p block order = (0, 0, [], [], [], 2, p) := (if_neg hbad).trans (if_neg hh)
      rw [e]
      refine (Decode_head s hs p hp block order hbad B g hB w hR ?_).mono fun e w' ⟨h1, ⟨q, h2, h3⟩, h4⟩ => ?_
      · unfold headD at hh
        by_cases c1 : (getR s p 2).2.1 = 0
        · by_cases c2 : (getR s (getR s p 2).2.2 4).2.1 = 0
          · exact .inr (.inr ⟨c1, c2, fun h => hh ⟨c1, c2, h⟩⟩)
          · exact .inr (.inl ⟨c1, c2⟩)
        · exact .inl c1
      · exact ⟨_, _, _, h1, IntsAt.nil _ _, IntsAt.nil _ _, IntsAt.nil _ _, ⟨q, h2, h3, fun h => by cases h⟩, h4⟩
end Go.Proofs.Ytfhekkoibmlmpaa.Hand

/- Plain words of layer 1: what was written is read as it was. -/
namespace Go.Proofs.Ytfhekkoibmlmpaa.Hand
open Go.RowKit Go.Proofs.Ytfhekkoibmlmpaa.Q Go.Proofs.YtfhekkoibmlmpaaW.PrintWords Go.Proofs.YtfhekkoibmlmpaaW.PrintLast Go.Proofs.YtfhekkoibmlmpaaW.PrintMore
set_option linter.unusedVariables false
set_option linter.unusedSimpArgs false

structure Deed where
  k : Int
  w : Int
  n : Int
  u : Int
/-- A deed that is written without an error. -/
def okDeed (d : Deed) : Prop := if d.k = 0 then putP d.u.toNat d.w else if d.k = 1 then fitsP d.n d.w else if d.k = 2 then 0 ≤ d.n ∧ d.n ≤ 16777216 else if d.k = 3 then riceP d.n d.w else True
instance (d : Deed) : Decidable (okDeed d) := by unfold okDeed; infer_instance
def codeD (L : Nat) (d : Deed) : List Bool := if d.k = 0 then nbits d.u.toNat d.w.toNat else if d.k = 1 then nbits (wordN d.n) d.w.toNat else if d.k = 2 then List.replicate d.n.toNat false ++ [true] else if d.k = 3 then riceB d.n d.w.toNat else List.replicate (padN L) false
/-- A text that holds bits, and noughts up to a whole byte. -/
structure Holds (s : ByteArray) (F : List Bool) : Prop where
  bit : ∀ q, tb s q = F.getD q false
  len : F.length ≤ 8 * s.size
  end_ : 8 * s.size < F.length + 8
theorem bytesOf_nums (l : List Int) (h : ∀ x ∈ l, 0 ≤ x ∧ x < 256) : bytesOf (strOfNums l) = l := by
  unfold bytesOf strOfNums
  simp only [List.map_map]
  conv => rhs; rw [← List.map_id l]
  apply List.map_congr_left
  intro x hx
  have := h x hx
  simp
  omega
theorem size_nums (l : List Int) : (strOfNums l).size = l.length := by
  have : (strOfNums l).size = ((l.map fun n => UInt8.ofNat n.toNat).toArray).size := rfl
  rw [this, List.size_toArray, List.length_map]
theorem pack_in (bs : List Bool) : ∀ x ∈ pack bs, 0 ≤ x ∧ x < 256 := by
  intro x hx
  unfold pack at hx
  obtain ⟨j, hj, rfl⟩ := List.mem_map.1 hx
  have := val_lt ((bs.drop (8 * j)).take 8) 7
  rw [show (2 : Nat) ^ 7 = 128 from rfl, show (2 : Nat) ^ (7 + 1) = 256 from rfl] at this
  omega
theorem text_holds (F : List Bool) : Holds (strOfNums (pack F)) F := by
  refine ⟨fun q => ?_, ?_, ?_⟩
  · unfold tb
    rw [bytesOf_nums _ (pack_in F), bit_pack]
  · rw [size_nums, pack_length]; omega
  · rw [size_nums, pack_length]; omega
theorem bits_of {s : ByteArray} {F A C R : List Bool} (h : Holds s F) (e : F = A ++ C ++ R) : bitsAt s A.length C.length = C := by
  apply List.ext_getElem?
  intro i
  unfold bitsAt
  by_cases hi : i < C.length
  · rw [List.getElem?_map, List.getElem?_range hi, Option.map_some, h.bit, e, List.getD_eq_getElem?_getD, List.append_assoc, List.getElem?_append_right (by omega), List.getElem?_append_left (by omega), show A.length + i - A.length = i by omega, List.getElem?_eq_getElem hi]
    rfl
  · rw [List.getElem?_eq_none (by simp; omega), List.getElem?_eq_none (by omega)]
theorem zeros_is (s : ByteArray) : ∀ (n p m : Nat), (∀ i, i < n → tb s (p + i) = false) → tb s (p + n) = true → n < m → zeros s p m = n
  | 0, p, m, _, h1, hm => by
    obtain ⟨m, rfl⟩ : ∃ j, m = j + 1 := ⟨m - 1, by omega⟩
    rw [zeros, if_pos (by simpa using h1)]
  | n + 1, p, m, h0, h1, hm => by
    obtain ⟨m, rfl⟩ : ∃ j, m = j + 1 := ⟨m - 1, by omega⟩
    have hb : tb s p = false := by simpa using h0 0 (by omega)
    rw [zeros, if_neg (by rw [hb]; decide), zeros_is s n (p + 1) m (fun i hi => by have := h0 (i + 1) (by omega); rw [show p + 1 + i = p + (i + 1) by omega]; exact this) (by rw [show p + 1 + n = p + (n + 1) by omega]; exact h1) (by omega)]
theorem unary_of {s : ByteArray} {F A R : List Bool} {n : Nat} (h : Holds s F) (e : F = A ++ (List.replicate n false ++ [true]) ++ R) (hn : n ≤ 16777216) : unaryR s A.length = (n, 0, A.length + (n + 1)) := by
  have hlen : F.length = A.length + (n + 1) + R.length := by rw [e]; simp; omega
  have hz : zeros s A.length (8 * s.size - A.length) = n := by
    refine zeros_is s n A.length _ (fun i hi => ?_) ?_ (by have := h.len; omega)
    · rw [h.bit, e, List.getD_eq_getElem?_getD, List.append_assoc, List.getElem?_append_right (by omega), List.append_assoc, List.getElem?_append_left (by simp; omega), show A.length + i - A.length = i by omega, List.getElem?_replicate, if_pos hi]
      rfl
    · rw [h.bit, e, List.getD_eq_getElem?_getD, List.append_assoc, List.getElem?_append_right (by omega), List.append_assoc, List.getElem?_append_right (by simp), List.length_replicate, show A.length + n - A.length - n = 0 by omega]
      rfl
  unfold unaryR
  rw [hz, if_neg (by omega), if_neg (by have := h.len; omega)]
  rfl
theorem get_of {s : ByteArray} {F A C R : List Bool} (h : Holds s F) (e : F = A ++ C ++ R) (hC : C.length ≤ 64) : getR s A.length (C.length : Nat) = (natOf C, 0, A.length + C.length) := by
  have hlen : F.length = A.length + C.length + R.length := by rw [e]; simp; omega
  unfold getR
  rw [if_neg (by omega), if_neg (by have := h.len; omega), Int.toNat_natCast]
  unfold numAt
  rw [bits_of h e]
theorem sign_of (n : Int) (K : Nat) (h : fitsP n K) : signOf (wordN n % 2 ^ K) K = n := by
  obtain ⟨h1, h2, h3, h4⟩ := h
  have hK : (K : Int) - 1 = ((K - 1 : Nat) : Int) := by omega
  rw [hK, Int.toNat_natCast] at h3 h4
  have e1 : (2 : Int) ^ (K - 1) = ((2 ^ (K - 1) : Nat) : Int) := (Int.natCast_pow 2 (K - 1)).symm
  have e2 : 2 ^ K = 2 * 2 ^ (K - 1) := by
    have := Nat.pow_succ 2 (K - 1)
    rw [show (K - 1).succ = K by omega] at this
    omega
  have hd : (2 ^ K : Nat) ∣ 2 ^ 64 := Nat.pow_dvd_pow 2 (by omega)
  have hw : ((wordN n % 2 ^ K : Nat) : Int) = n % ((2 ^ K : Nat) : Int) := by
    rw [Int.natCast_emod]
    have : ((wordN n : Nat) : Int) = n % 18446744073709551616 := by unfold wordN; omega
    rw [this]
    exact Int.emod_emod_of_dvd n (show ((2 ^ K : Nat) : Int) ∣ ((2 ^ 64 : Nat) : Int) from Int.natCast_dvd_natCast.2 hd)
  have e3 : (2 : Int) ^ K = ((2 ^ K : Nat) : Int) := (Int.natCast_pow 2 K).symm
  unfold signOf
  rw [e3]
  rw [e1] at h3 h4
  generalize wordN n % 2 ^ K = y at hw ⊢
  rw [e2] at hw ⊢
  generalize 2 ^ (K - 1) = X at hw h3 h4 ⊢
  by_cases hn : 0 ≤ n
  · rw [Int.emod_eq_of_lt hn (by omega)] at hw
    rw [if_pos (by omega)]
    exact hw
  · have : n % ((2 * X : Nat) : Int) = n + ((2 * X : Nat) : Int) := by
      rw [← Int.add_emod_right, Int.emod_eq_of_lt (by omega) (by omega)]
    rw [this] at hw
    rw [if_neg (by omega)]
    omega
theorem read_signed {s : ByteArray} {F A R : List Bool} (d : Deed) (h : Holds s F) (e : F = A ++ codeD A.length d ++ R) (hk : d.k = 1) (ho : okDeed d) : signedR s A.length d.w = (d.n, 0, A.length + (codeD A.length d).length) := by
  unfold okDeed at ho
  rw [if_neg (by omega), if_pos hk] at ho
  have hc : codeD A.length d = nbits (wordN d.n) d.w.toNat := by unfold codeD; rw [if_neg (by omega), if_pos hk]
  rw [hc] at e ⊢
  have h1 := ho.1
  have h2 := ho.2.1
  have hl := nbits_length (wordN d.n) d.w.toNat
  have hg := get_of h e (by rw [hl]; omega)
  rw [hl, natOf_nbits, Int.toNat_of_nonneg (by omega)] at hg
  unfold signedR
  rw [if_neg (by omega), hg]
  rw [if_pos rfl, hl, sign_of d.n d.w.toNat (by rw [Int.toNat_of_nonneg (by omega)]; exact ho)]
theorem read_rice {s : ByteArray} {F A R : List Bool} (d : Deed) (h : Holds s F) (e : F = A ++ codeD A.length d ++ R) (hk : d.k = 3) (ho : okDeed d) : riceR s A.length d.w = (d.n, 0, A.length + (codeD A.length d).length) := by
  unfold okDeed at ho
  rw [if_neg (by omega), if_neg (by omega), if_neg (by omega), if_pos hk] at ho
  have hc : codeD A.length d = riceB d.n d.w.toNat := by unfold codeD; rw [if_neg (by omega), if_neg (by omega), if_neg (by omega), if_pos hk]
  rw [hc] at e ⊢
  obtain ⟨h1, h2, h3⟩ := ho
  obtain ⟨K, hK⟩ : ∃ K : Nat, d.w.toNat = K := ⟨_, rfl⟩
  have hw : d.w = (K : Int) := by omega
  rw [hK] at h3 e ⊢
  have hq := Nat.div_add_mod (foldN d.n) (2 ^ K)
  have hu : F = A ++ (List.replicate (foldN d.n / 2 ^ K) false ++ [true]) ++ (nbits (foldN d.n) K ++ R) := by
    rw [e]
    unfold riceB
    simp
  have hA : F = (A ++ (List.replicate (foldN d.n / 2 ^ K) false ++ [true])) ++ nbits (foldN d.n) K ++ R := by rw [hu]; simp
  have r1 := unary_of h hu h3
  have hl := nbits_length (foldN d.n) K
  have r2 := get_of h hA (by rw [hl]; omega)
  have hla : (A ++ (List.replicate (foldN d.n / 2 ^ K) false ++ [true])).length = A.length + (foldN d.n / 2 ^ K + 1) := by simp
  rw [hla, hl, natOf_nbits] at r2
  unfold riceR
  rw [if_neg (by omega), r1]
  rw [if_pos rfl, hw, r2]
  rw [if_pos rfl, Int.toNat_natCast]
  have hlen : (riceB d.n K).length = foldN d.n / 2 ^ K + 1 + K := by unfold riceB; simp [nbits_length]; omega
  rw [hlen, show foldN d.n / 2 ^ K * 2 ^ K + foldN d.n % 2 ^ K = foldN d.n by rw [Nat.mul_comm]; exact hq, unfold_fold]
  refine Prod.ext rfl (Prod.ext rfl ?_)
  show A.length + (foldN d.n / 2 ^ K + 1) + K = A.length + (foldN d.n / 2 ^ K + 1 + K)
  omega
end Go.Proofs.Ytfhekkoibmlmpaa.Hand
