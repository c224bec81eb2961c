/- Texts of this claim's proof, laid behind each other by a program of ours, without what the proof does not reach: Contracts of layer 8, proved by hand: the reference's Decode, where its head may be (method 1); Contracts of layer 8, proved by hand: the reference's Decode, whole; Contracts of layer 8, proved by hand: RiceDecodes -/
import Derived.Laws.StructEq
import Derived.Test.YtfhekkoibmlmpaaDcd1
import Derived.Test.YtfhekkoibmlmpaaDcd2
import Derived.Test.YtfhekkoibmlmpaaDcd3
import Derived.Test.YtfhekkoibmlmpaaDcd4
import Derived.Test.YtfhekkoibmlmpaaDcd5
import Derived.Test.YtfhekkoibmlmpaaDcd6
import Derived.Test.YtfhekkoibmlmpaaDcd7
import Derived.Test.YtfhekkoibmlmpaaDcdWApart
import Derived.Test.YtfhekkoibmlmpaaDcdWFoot
import Derived.Test.YtfhekkoibmlmpaaDcdWGuard
import Derived.Test.YtfhekkoibmlmpaaDcdWInv
import Derived.Test.YtfhekkoibmlmpaaDcdWKept
import Derived.Test.YtfhekkoibmlmpaaDcdWLast
import Derived.Test.YtfhekkoibmlmpaaDcdWMore
import Derived.Test.YtfhekkoibmlmpaaDcdWN
import Derived.Test.YtfhekkoibmlmpaaDcdWRepsOne
import Derived.Test.YtfhekkoibmlmpaaDcdWShare
import Derived.Test.YtfhekkoibmlmpaaDcdWTab
import Derived.Test.YtfhekkoibmlmpaaDcdWWords
/- Contracts of layer 8, proved by hand: the reference's Decode, where its head may be (method 1). -/
namespace Go.Proofs.Ytfhekkoibmlmpaa.Hand
open Go.RowKit Go.Proofs.Ytfhekkoibmlmpaa.Q Go.Proofs.YtfhekkoibmlmpaaW.PrintWords Go.Proofs.YtfhekkoibmlmpaaW.PrintLast Go.Proofs.YtfhekkoibmlmpaaW.PrintMore
set_option linter.unusedVariables false
set_option linter.unusedSimpArgs false

set_option maxHeartbeats 16000000 in
set_option maxRecDepth 100000 in
theorem RDecode_go1 (s : ByteArray) (hs : s.size ≤ 281474976710656) (p : Nat) (hp : p ≤ 8 * s.size) (Bk Oq n : Nat) (hbad : ¬ badArgs Bk Oq) (B g : Nat) (hB : B ≤ g) (w : World) (hBw : B ≤ w.heap.size) (hR : XAt w g s p)
    (h1 : (getR s p 2).2.1 = 0) (h2 : (getR s (getR s p 2).2.2 4).2.1 = 0) (hm : (getR s p 2).1 = 1) (hsh : shapeP 1 (getR s (getR s p 2).2.2 4).1 Bk Oq) (hn : Bk = 2 ^ (getR s (getR s p 2).2.2 4).1 * n) (hon : Oq ≤ n) :
    Calls Try.prog 22 #[.pointer (some ⟨g, 0, none⟩), .int .i64 Bk, .int .i64 Oq] w
      (XDecPost s 1 (getR s (getR s p 2).2.2 4).1 (decL s n Oq 5 (2 ^ (getR s (getR s p 2).2.2 4).1) 0 [] [] [] (getR s (getR s p 2).2.2 4).2.2) w.heap.size B g w) := by
  have hup := Try.underlying47
  obtain ⟨x1, x2, x3, x4, x5⟩ : ¬ (Bk : Int) < 1 ∧ ¬ 65535 < (Bk : Int) ∧ ¬ (Oq : Int) < 0 ∧ ¬ 32 < (Oq : Int) ∧ ¬ (Bk : Int) < (Oq : Int) := by unfold badArgs at hbad; omega
  have hgl := hR.lt
  have hbel : Below w.heap.size w (w.alloc (.cells zRice 24)) := below_alloc (Below.refl _ _) _
  have HG1 := Aside0.mk (XGet_t s hs p hp B g hB (w.alloc (.cells zRice 24)) (hR.below hbel) 2)
  have hat1 := getR_at s p 2 hp
  have hl1 : (getR s p 2).1 < 4 := getR_small s p 2
  have HGET : Aside0 (∀ W q (k : Int), q ≤ 8 * s.size → XAt W g s q → Calls Try.prog 43 #[.pointer (some ⟨g, 0, none⟩), .int .i64 k] W fun e w' => e = .returned (.tuple #[.int .u64 (getR s q k).1, .int .i64 (getR s q k).2.1]) ∧ XAt w' g s (getR s q k).2.2 ∧ Turned B g W w') := ⟨fun W q k hq h => XGet_t s hs q hq B g hB W h k⟩
  have HRICE : Aside0 (∀ W q (k : Int), q ≤ 8 * s.size → XAt W g s q → Calls Try.prog 44 #[.pointer (some ⟨g, 0, none⟩), .int .i64 k] W fun e w' => e = .returned (.tuple #[.int .i64 (riceR s q k).1, .int .i64 (riceR s q k).2.1]) ∧ XAt w' g s (riceR s q k).2.2 ∧ Turned B g W w') := ⟨fun W q k hq h => XRice_t s hs q hq B g hB W h k⟩
  have HSIGN : Aside0 (∀ W q (k : Int), k ≤ 64 → q ≤ 8 * s.size → XAt W g s q → Calls Try.prog 45 #[.pointer (some ⟨g, 0, none⟩), .int .i64 k] W fun e w' => e = .returned (.tuple #[.int .i64 (signedR s q k).1, .int .i64 (signedR s q k).2.1]) ∧ XAt w' g s (signedR s q k).2.2 ∧ Turned B g W w') := ⟨fun W q k hk hq h => XSigned_t s hs q hq B g hB W h k hk⟩
  have HG2 : Aside0 (∀ W, XAt W g s (getR s p 2).2.2 → Calls Try.prog 43 #[.pointer (some ⟨g, 0, none⟩), .int .i64 4] W fun e w' => e = .returned (.tuple #[.int .u64 (getR s (getR s p 2).2.2 4).1, .int .i64 (getR s (getR s p 2).2.2 4).2.1]) ∧ XAt w' g s (getR s (getR s p 2).2.2 4).2.2 ∧ Turned B g W w') := ⟨fun W h => XGet_t s hs _ hat1 B g hB W h 4⟩
  have hat2 := getR_at s (getR s p 2).2.2 4 hat1
  have hl2 : (getR s (getR s p 2).2.2 4).1 < 16 := getR_small s _ 4
  have HT0 := Aside0.mk ((Turned.refl B g w).new hbel (by omega))
  have HZ0 := Aside0.mk (blk_new w (.cells zRice 24 (0, 0)))
  have hb7 : w.heap.size ≠ g := by omega
  have HS := Aside0.mk hs
  clear hbad hR hbel hs
  generalize getR s (getR s p 2).2.2 4 = gr2 at h2 hsh hn HG2 hat2 hl2 ⊢
  generalize getR s p 2 = gr1 at h1 hm HG1 HG2 hat1 hl1 ⊢
  obtain ⟨a1, e1, q1⟩ := gr1
  obtain ⟨a2, e2, q2⟩ := gr2
  simp only at h1 h2 hm hsh hn HG1 HG2 hat1 hat2 hl1 hl2 ⊢
  subst h1
  subst h2
  subst hm
  obtain ⟨X, hX⟩ : ∃ X, decL s n Oq 5 (2 ^ a2) 0 [] [] [] q2 = X := ⟨_, rfl⟩
  rw [hX]
  have HX := Aside0.mk hX
  have hN2 : 2 ^ a2 ≤ 2 ^ 15 := Nat.pow_le_pow_right (by decide) (by omega)
  have hNp : 0 < 2 ^ a2 := Nat.two_pow_pos a2
  have HCS : Aside0 (∀ W, Calls Try.prog 40 #[.agg #[.int .i64 1, .int .i64 a2, .slice none 0 0, .slice none 0 0], .int .i64 Bk, .int .i64 Oq] W fun e w' => e = .returned (.bool true) ∧ Below W.heap.size W w') := ⟨fun W =>
    lacquerref08_shape.calls 1 a2 none 0 [] none 0 [] Bk Oq true W ⟨rfl, by decide, fun h => absurd h (Nat.lt_irrefl _)⟩ (Nat.le_refl _) ⟨rfl, by decide, fun h => absurd h (Nat.lt_irrefl _)⟩ (Nat.le_refl _) (by rw [xshape_eq 1 a2 [] [] Bk Oq, decide_eq_true hsh])⟩
  have HPT : Aside0 (∀ (i : Nat) (W : World) (AP AE : Option Addr) (cP cE : Nat) (ps es : List Int), Kd.C (Kd.int .i64) W AP ps.length ps → ps.length ≤ cP → Kd.C (Kd.int .i64) W AE es.length es → es.length ≤ cE → i < 2 ^ a2 → Calls Try.prog 35 #[.agg #[.int .i64 1, .int .i64 a2, .slice AP ps.length cP, .slice AE es.length cE], .int .i64 Bk, .int .i64 Oq, .int .i64 i] W fun e w' => e = .returned (.tuple #[.int .i64 ((i * n - Oq : Nat) : Int), .int .i64 (((i + 1) * n - Oq : Nat) : Int)]) ∧ Below W.heap.size W w') :=
    ⟨fun i W AP AE cP cE ps es hP hcP hE hcE hi => lacquerref08_part.calls 1 a2 AP cP ps AE cE es Bk Oq i _ _ W hP hcP hE hcE (xpart_eq 1 a2 Bk Oq n i ps es (by omega) (by omega) (by omega) hn hon hi)⟩
  have HNn : Aside0 (2 ^ a2 * n ≤ 65535) := ⟨by rw [← hn]; omega⟩
  have hn6 : n ≤ 65535 := by
    have := HNn.out
    have h3 : 1 * n ≤ 2 ^ a2 * n := Nat.mul_le_mul_right n hNp
    omega
  obtain ⟨N, hN⟩ : ∃ N, 2 ^ a2 = N := ⟨_, rfl⟩
  have HJ := Aside0.mk (shl1 a2 N (by omega) hN)
  rw [hN] at HX hN2 hNp HNn HPT
  clear hX hn hsh hN
  obtain ⟨oI, ho⟩ : ∃ oI : Int, (a2 : Int) = oI := ⟨_, rfl⟩
  have o0 : 0 ≤ oI := by omega
  have o1 : oI ≤ 64 := by omega
  rw [ho] at HG2 HCS HPT HJ ⊢
  have HO := Aside0.mk ho
  clear ho hl2
  go_enter Try.func22, Try.ntmps22
  go_wp2_with fail
  with_reducible refine HG1.out.mono ?_
  rintro e w2 ⟨rfl, hr2, ht2⟩
  have HR2 := Aside0.mk hr2
  have HT2 := Aside0.mk (HT0.out.trans ht2)
  have HZ2 := Aside0.mk (blk_kept HZ0.out ht2.kept (fun h => hb7 h))
  clear hr2 ht2 HG1 HT0 HZ0
  go_wp2_with fail
  with_reducible refine (HG2.out w2 HR2.out).mono ?_
  rintro e w3 ⟨rfl, hr3, ht3⟩
  have HR3 := Aside0.mk hr3
  have HT3 := Aside0.mk (HT2.out.trans ht3)
  have HZ3 := Aside0.mk (blk_kept HZ2.out ht3.kept (fun h => hb7 h))
  have hg3 := hr3.lt
  have hsz3 := HT3.out.kept.1
  clear hr3 ht3 HG2 HT2 HZ2 HR2
  have HB4 := Aside0.mk (below_setRow (below_alloc (Below.refl w3.heap.size w3) (.cells zRice 24 (0, 0))) (Nat.le_refl _) #[.int .i64 1, .int .i64 oI, .slice none 0 0, .slice none 0 0])
  have HX4 := Aside0.mk (setRow_heap _ _ _ #[.int .i64 1, .int .i64 oI, .slice none 0 0, .slice none 0 0] _ _ (blk_new w3 (.cells zRice 24 (0, 0))))
  have HZ4 := Aside0.mk (blk_below HZ3.out HB4.out)
  have HR4 := Aside0.mk (HR3.out.below HB4.out)
  have HT4 := Aside0.mk (HT3.out.new HB4.out (by omega))
  have h713 : w.heap.size ≠ w3.heap.size := by have := blk_lt HZ3.out; omega
  clear HZ3 HR3 HT3
  go_upto_region 8 with ((with_reducible refine wpList_store_row ?_ 24 (.tmp 12) (.tmp 72) ?_ w3.heap.size #[.int .i64 1, .int .i64 oI, .slice none 0 0, .slice none 0 0] ?_ ?_ 24 zRice (blk_new w3 (.cells zRice 24 (0, 0))) (rc_info _ _ _ _) ?_ (rc_one _ _ _ _ _ _ _ _) ?_); rfl; rfl; rfl; rfl; rfl)
  have hsz4 := HB4.out.size
  generalize (w3.alloc (.cells zRice 24 (0, 0))).setRow w3.heap.size #[.int .i64 1, .int .i64 oI, .slice none 0 0, .slice none 0 0] = w4 at *
  have hB13 : w.heap.size ≤ w3.heap.size := hsz3
  have hg13 : g ≠ w3.heap.size := by omega
  clear hsz3 hg3 HB4
  generalize w3.heap.size = b13 at *
  have c0 := blk_cell HX4.out 0
  have c1 := blk_cell HX4.out 1
  have c2 := blk_cell HX4.out 2
  have c3 := blk_cell HX4.out 3
  go_wp2_with fail
  with_reducible refine (HCS.out _).mono ?_
  rintro e w5 ⟨rfl, hb5⟩
  have HZ5 := Aside0.mk (blk_below HZ4.out hb5)
  have HR5 := Aside0.mk (HR4.out.below hb5)
  have HT5 := Aside0.mk (HT4.out.new hb5 (by have := HR4.out.lt; omega))
  have HX5 := Aside0.mk (blk_below HX4.out hb5)
  clear hb5 c0 c1 c2 c3 HX4 HZ4 HR4 HT4 HCS
  have d0 := blk_cell HX5.out 0
  obtain ⟨c, hc⟩ : ∃ c, Bk - Oq = c := ⟨_, rfl⟩
  have hmk := make_ints w5 w.heap.size c (by omega) HT5.out.kept.1
  obtain ⟨w6, hrun, hI6, hB6⟩ := hmk
  have hcI : (Bk : Int) - (Oq : Int) = (c : Int) := by omega
  rw [← hcI] at hrun
  have HI6 := Aside0.mk hI6
  have HB6 := Aside0.mk hB6
  clear hI6 hB6 hcI
  go_upto_region 12 with fail
  have hst : XDecSt w B g w.heap.size b13 s 1 oI w6 q2 (.slice (some ⟨w5.heap.size, 0, none⟩) 0 c) (.slice none 0 0) (.slice none 0 0) [] [] [] :=
    ⟨HR5.out.below HB6.out, HT5.out.new HB6.out (by have := HR5.out.lt; omega), blk_below HZ5.out HB6.out, blk_below HX5.out HB6.out, HI6.out, IntsAt.nil _ _, IntsAt.nil _ _, Dis.nil_right _, Dis.nil_right _, Dis.nil_left _⟩
  have HST := Aside0.mk hst
  clear hrun HB6 HI6 HX5 HZ5 HR5 HT5 d0 hst
  generalize Value.slice (some ⟨w5.heap.size, 0, none⟩) 0 c = u0 at *
  go_wp2
  go_loopw [14, 15] (fun uv iv wr => ∃ (i : Nat) (vP vE : Value) (al ps es : List Int) (q : Nat), i ≤ N ∧ iv = .int .i64 i ∧ q ≤ 8 * s.size ∧ Aside0 (al.length ≤ i * n ∧ ps.length = i ∧ es.length = i) ∧ Aside0 (XDecSt w B g w.heap.size b13 s 1 oI wr q uv vP vE al ps es) ∧ Aside0 (decL s n Oq 5 (N - i) i al ps es q = X)) (fun _ iv _ => N - (intOf iv).toNat)
  case atStart => exact ⟨0, .slice none 0 0, .slice none 0 0, [], [], [], q2, Nat.zero_le _, rfl, hat2, ⟨Nat.zero_le _, rfl, rfl⟩, HST, ⟨by rw [Nat.sub_zero]; exact HX.out⟩⟩
  case round =>
    clear HST HX
    obtain ⟨i, vP, vE, al, ps, es, q, hi, rfl, hq, HLN, HST, HX⟩ := hrel
    by_cases hlt : i < N
    · have i0 : (0 : Int) ≤ (i : Int) := by omega
      have i1 : (i : Int) < (N : Int) := by omega
      obtain ⟨d, hd⟩ : ∃ d, N - i = d + 1 := ⟨N - i - 1, by omega⟩
      have hd2 : N - (i + 1) = d := by omega
      have HD := Aside0.mk hd2
      have hmul : (i + 1) * n = i * n + n := Nat.succ_mul i n
      have hle : (i + 1) * n ≤ N * n := Nat.mul_le_mul_right n (by omega)
      have HLE := Aside0.mk (Nat.le_trans hle HNn.out)
      obtain ⟨k, hk⟩ : ∃ k, (if i = 0 then n - Oq else n) = k := ⟨_, rfl⟩
      have hkn : k ≤ n := by rw [← hk]; split <;> omega
      have hfk : i * n - Oq + k = (i + 1) * n - Oq := by
        by_cases h0 : i = 0
        · rw [if_pos h0] at hk
          subst h0
          rw [Nat.zero_mul, Nat.zero_sub] at *
          omega
        · rw [if_neg h0] at hk
          have h3 : 1 * n ≤ i * n := Nat.mul_le_mul_right n (by omega)
          omega
      have HX2 : Aside0 ((if (valsR s (headR s q 5).1 (headR s q 5).2.1 k [] (headR s q 5).2.2.1 (headR s q 5).2.2.2).2.1 = 0 then
          decL s n Oq 5 d (i + 1) (al ++ (valsR s (headR s q 5).1 (headR s q 5).2.1 k [] (headR s q 5).2.2.1 (headR s q 5).2.2.2).1) (ps ++ [(headR s q 5).1]) (es ++ [(headR s q 5).2.1]) (valsR s (headR s q 5).1 (headR s q 5).2.1 k [] (headR s q 5).2.2.1 (headR s q 5).2.2.2).2.2
        else none) = X) := ⟨by
        have := HX.out
        rw [hd, decL_step, hk] at this
        exact this⟩
      have hal3 : al.length + k ≤ (i + 1) * n ∧ al.length + k ≤ 65535 := by have := HLE.out; have := HLN.out.1; omega
      have HAL := Aside0.mk hal3
      have hH := headR_cases s q 5 5 rfl
      have hlo := getR_lo s q 5 5 rfl
      have hqa := getR_at s q 5 hq
      have HLN2 : Aside0 (ps.length = i ∧ es.length = i) := ⟨HLN.out.2⟩
      obtain ⟨AP, cP, rfl, hcP, hCP⟩ := HST.out.P.C
      obtain ⟨AE, cE, rfl, hcE, hCE⟩ := HST.out.E.C
      have HPI := Aside0.mk (HPT.out i wr AP AE cP cE ps es hCP hcP hCE hcE hlt)
      obtain ⟨f, hf⟩ : ∃ f, i * n - Oq = f := ⟨_, rfl⟩
      obtain ⟨t, ht⟩ : ∃ t, (i + 1) * n - Oq = t := ⟨_, rfl⟩
      rw [hf, ht] at hfk HPI
      have ht6 : t ≤ 65535 := by have := HLE.out; omega
      have c0 := blk_cell HST.out.r13 0
      have c1 := blk_cell HST.out.r13 1
      have c2 := blk_cell HST.out.r13 2
      have c3 := blk_cell HST.out.r13 3
      have HFK := Aside0.mk hfk
      clear HX hd hd2 hmul hle hal3 hk hf ht hCP hCE hcP hcE HLN hkn hfk
      obtain ⟨j9, j0, j1, j2, j3, j4, ju⟩ := HJ.out
      go_wp2_with fail
      clear j9 j0 j1 j2 j3 j4 ju
      with_reducible refine HPI.out.mono ?_
      rintro e w7 ⟨rfl, hb7'⟩
      have hst7 := HST.out.below hB hb7'
      have HST7 := Aside0.mk hst7
      clear hst7 hb7' HPI HST c0 c1 c2 c3
      have HGQ := Aside0.mk (HGET.out w7 q 5 hq HST7.out.rd)
      generalize getR s q 5 = gr at hH hlo hqa HGQ
      obtain ⟨a, e1, q1⟩ := gr
      simp only at hH hlo hqa HGQ
      go_wp2_with fail
      with_reducible refine HGQ.out.mono ?_
      rintro e w8 ⟨rfl, hr8, ht8⟩
      have hst8 := HST7.out.turn hr8 ht8 hb7 (fun h => hg13 h.symm)
      have HST8 := Aside0.mk hst8
      have HT8 := Aside0.mk hst8.tn
      clear hst8 hr8 ht8 HGQ HST7
      cases he1 : e1 != 0 with
      | true =>
        have hn1 : e1 ≠ 0 := by simpa using he1
        rw [if_neg (fun h => hn1 h.1)] at hH
        have HXN : Aside0 (X = none) := ⟨by have := HX2.out; rw [hH] at this; simp only at this; rw [if_neg (by rw [valsR_bad _ _ _ _ _ _ _ hn1]; exact hn1)] at this; exact this.symm⟩
        clear hn1 hH HX2
        go_wp2_with ((with_reducible refine wpList_store_row ?_ 24 (.tmp 7) (.tmp 114) ?_ w.heap.size zRice ?_ ?_ 24 zRice HST8.out.z7 (rc_info _ _ _ _) ?_ (rc_one _ _ _ _ _ _ _ _) ?_); rfl; rfl; rfl; rfl; rfl)
        refine bodyPost_ret (results_tct rfl _ _ w.heap.size 24 zRice (0, 0) _ rfl (setRow_heap _ _ _ _ _ _ HST8.out.z7) Try.underlying24 rfl (rc_info _ _ _ _)) rfl ?_
        exact .inl ⟨HXN.out, rfl, ⟨q1, HST8.out.rd.setRow hb7, hqa⟩, HST8.out.tn.setRow (Nat.le_refl _) hBw⟩
      | false =>
        have hz1 : e1 = 0 := by simpa using he1
        subst hz1
        by_cases ha : a = 31
        · have hab : ((a : Int) == 31) = true := beq_iff_eq.mpr (by omega)
          rw [if_pos ⟨rfl, ha⟩] at hH
          have hlo5 := getR_lo s q1 5 5 rfl
          have hq5 := getR_at s q1 5 hqa
          have HGQ := Aside0.mk (HGET.out w8 q1 5 hqa HST8.out.rd)
          generalize getR s q1 5 = gr at hH hlo5 hq5 HGQ
          obtain ⟨b, e3, q3⟩ := gr
          simp only at hH hlo5 hq5 HGQ
          clear ha
          go_wp2_with fail
          with_reducible refine HGQ.out.mono ?_
          rintro e w9 ⟨rfl, hr9, ht9⟩
          have hst9 := HST8.out.turn hr9 ht9 hb7 (fun h => hg13 h.symm)
          have HST9 := Aside0.mk hst9
          clear hst9 hr9 ht9 HGQ HST8 HT8
          cases he3 : e3 != 0 with
          | true =>
            have hn1 : e3 ≠ 0 := by simpa using he3
            have HXN : Aside0 (X = none) := ⟨by have := HX2.out; rw [hH] at this; simp only at this; rw [if_neg (by rw [valsR_bad _ _ _ _ _ _ _ hn1]; exact hn1)] at this; exact this.symm⟩
            clear hn1 hH HX2
            go_wp2_with ((with_reducible refine wpList_store_row ?_ 24 (.tmp 7) (.tmp 130) ?_ w.heap.size zRice ?_ ?_ 24 zRice HST9.out.z7 (rc_info _ _ _ _) ?_ (rc_one _ _ _ _ _ _ _ _) ?_); rfl; rfl; rfl; rfl; rfl)
            refine bodyPost_ret (results_tct rfl _ _ w.heap.size 24 zRice (0, 0) _ rfl (setRow_heap _ _ _ _ _ _ HST9.out.z7) Try.underlying24 rfl (rc_info _ _ _ _)) rfl ?_
            exact .inl ⟨HXN.out, rfl, ⟨q3, HST9.out.rd.setRow hb7, hq5⟩, HST9.out.tn.setRow (Nat.le_refl _) hBw⟩
          | false =>
            have hz3 : e3 = 0 := by simpa using he3
            subst hz3
            have HV0 : Aside0 (∃ V, valsR s 0 (b : Int) k [] 0 q3 = V ∧ (if V.2.1 = 0 then decL s n Oq 5 d (i + 1) (al ++ V.1) (ps ++ [0]) (es ++ [(b : Int)]) V.2.2 else none) = X) := ⟨⟨_, rfl, by have := HX2.out; rw [hH] at this; exact this⟩⟩
            obtain ⟨V, hV, hVX⟩ := HV0.out
            have HV := Aside0.mk hV
            have HVX := Aside0.mk hVX
            clear HV0 hV hVX hH HX2
            have hst8 := HST9.out.below hB (below_drew (Below.refl w9.heap.size w9))
            have HSTd := Aside0.mk hst8
            have hst := TwoRows.start hst8.r13 (by decide) hst8.P hst8.E hst8.d3 hB13
            have hpl : ps.length ≤ 65536 := by have := HLN2.out.1; omega
            have hel : es.length ≤ 65536 := by have := HLN2.out.2; omega
            clear hst8 HST9
            go_wp2
            refine start_ (n := 14) (S := fun w' => w'.cell? ⟨b13, 2, none⟩ = some ((Value.slice AP ps.length cP)) ∧ w'.cell? ⟨b13, 3, none⟩ = some ((Value.slice AE es.length cE))) (ds := [11, 13]) #[false, false, false, false, false, false, false, false, false, false, false, false, false, false] (by kernel_rfl) rfl rfl ⟨blk_cell hst.box 2, blk_cell hst.box 3⟩ (fun hHeld => ?_)
            refine pure_ (i := 0) (N := some 133) (v := ?_) (a' := ?_) #[true, false, false, false, false, false, false, false, false, false, false, false, false, false] rfl rfl (by kernel_rfl) (fun _ _ _ h => h) (Or.inl ⟨by rfl, ?_⟩) ?_ ?_
            rotate_left
            · intro w'
              go_simp
              with_reducible rfl
            rotate_left
            · simp only [Act.put, List.setIfInBounds_toArray, List.set_cons_zero, List.set_cons_succ, i64_w, i32_w]
              rfl
            refine pure_ (i := 2) (N := some 135) (v := ?_) (a' := ?_) #[true, false, true, false, false, false, false, false, false, false, false, false, false, false] rfl rfl (by kernel_rfl) (fun _ _ _ h => h) (Or.inl ⟨by rfl, ?_⟩) ?_ ?_
            rotate_left
            · intro w'
              go_simp
              with_reducible rfl
            rotate_left
            · simp only [Act.put, List.setIfInBounds_toArray, List.set_cons_zero, List.set_cons_succ, i64_w, i32_w]
              rfl
            refine pure_ (i := 5) (N := some 138) (v := ?_) (a' := ?_) #[true, false, true, false, false, true, false, false, false, false, false, false, false, false] rfl rfl (by kernel_rfl) (fun _ _ _ h => h) (Or.inl ⟨by rfl, ?_⟩) ?_ ?_
            rotate_left
            · intro w'
              go_simp
              with_reducible rfl
            rotate_left
            · simp only [Act.put, List.setIfInBounds_toArray, List.set_cons_zero, List.set_cons_succ, i64_w, i32_w]
              rfl
            refine pure_ (i := 7) (N := some 140) (v := ?_) (a' := ?_) #[true, false, true, false, false, true, false, true, false, false, false, false, false, false] rfl rfl (by kernel_rfl) (fun _ _ _ h => h) (Or.inl ⟨by rfl, ?_⟩) ?_ ?_
            rotate_left
            · intro w'
              go_simp
              with_reducible rfl
            rotate_left
            · simp only [Act.put, List.setIfInBounds_toArray, List.set_cons_zero, List.set_cons_succ, i64_w, i32_w]
              rfl
            refine take_ (i := 1) (N := some 134) (v := ?_) (a' := ?_) #[true, true, true, false, false, true, false, true, false, false, false, false, false, false] rfl rfl (by kernel_rfl) (fun _ _ _ h => h) (Or.inl ⟨by rfl, ?_⟩) hHeld ?_ ?_
            rotate_left
            · rintro w' ⟨s0, s1⟩
              go_simp
              with_reducible rfl
            rotate_left
            · simp only [Act.put, List.setIfInBounds_toArray, List.set_cons_zero, List.set_cons_succ, i64_w, i32_w]
              rfl
            refine take_ (i := 6) (N := some 139) (v := ?_) (a' := ?_) #[true, true, true, false, false, true, true, true, false, false, false, false, false, false] rfl rfl (by kernel_rfl) (fun _ _ _ h => h) (Or.inl ⟨by rfl, ?_⟩) hHeld ?_ ?_
            rotate_left
            · rintro w' ⟨s0, s1⟩
              go_simp
              with_reducible rfl
            rotate_left
            · simp only [Act.put, List.setIfInBounds_toArray, List.set_cons_zero, List.set_cons_succ, i64_w, i32_w]
              rfl
            refine join_ (σ := Nat × Value × Nat) 4 #[true, true, true, true, true, true, true, true, true, false, true, false, false, false] (fun s_ => [(136, .slice (some ⟨s_.1, 0, none⟩) 1 1), (137, s_.2.1), (141, .slice (some ⟨s_.2.2, 0, none⟩) 1 1), (143, .pointer (some ⟨b13, 2, none⟩))]) (fun s_ w' => (w'.cell? ⟨b13, 2, none⟩ = some ((Value.slice AP ps.length cP)) ∧ w'.cell? ⟨b13, 3, none⟩ = some ((Value.slice AE es.length cE))) ∧ TwoRows w.heap.size b13 24 w9.drew ((Value.slice AP ps.length cP)) ((Value.slice AE es.length cE)) w' #[.int .i64 1, .int .i64 oI, (Value.slice AP ps.length cP), (Value.slice AE es.length cE)] s_.2.1 ((Value.slice AE es.length cE)) (ps ++ [0]) (es) ∧ w'.heap[s_.2.2]? = some (.cells #[.int .i64 ((b : Int))] 3 (0, 0))) ?_ ?_
            rotate_left
            · intro hCont
              refine two_ (i := 3) (j := 8) (Ni := some 136) (Nj := some 141) #[true, true, true, true, false, true, true, true, false, false, false, false, false, false] #[true, true, true, false, false, true, true, true, true, false, false, false, false, false] rfl rfl rfl rfl (by kernel_rfl) (by decide) (by decide) (fun K hK => ?_) (fun K hK => ?_)
              · skip
                refine value_ (w1 := ?_) (v := ?_) (by rfl) rfl ?_ ?_
                rotate_left 2
                · go_simp
                  constructor
                  · rfl
                  · rfl
                have hb1 : (w9.drew.alloc (.cells #[.int .i64 (0)] 3 (0, 0))).heap[w9.heap.size]? = some (.cells #[.int .i64 (0)] 3 (0, 0)) := by simpa using blk_new w9.drew (.cells #[.int .i64 (0)] 3 (0, 0))
                have hs9 := hst.new (below_alloc (Below.refl _ _) (.cells #[.int .i64 (0)] 3 (0, 0)))
                clear hst
                have hst := hs9
                clear hs9
                refine hK.out _ _ ⟨blk_cell hst.box 2, blk_cell hst.box 3⟩ (fun hHeld => ?_)
                clear hK K
                refine norm_ (a' := ?_) ?_ ?_
                rotate_left
                · show Act.put _ (some 136) _ = _
                  simp only [Act.put, List.setIfInBounds_toArray, List.set_cons_zero, List.set_cons_succ, i64_w, i32_w]
                  rfl
                refine two_ (i := 4) (j := 8) (Ni := some 137) (Nj := some 141) #[true, true, true, true, true, true, true, true, false, false, false, false, false, false] #[true, true, true, true, false, true, true, true, true, false, false, false, false, false] rfl rfl rfl rfl (by kernel_rfl) (by decide) (by decide) (fun K hK => ?_) (fun K hK => ?_)
                · skip
                  refine app_lit_step (C := w.heap.size) (.tmp 134) (.tmp 136) (v := (Value.slice AP ps.length cP)) (xs := ps) (0) ?_ ?_ ?_ ?_ hst.P hb1 hst.le (by omega) ?_
                  · rfl
                  · rfl
                  · rfl
                  · rfl
                  intro v1 w1 hr1 hg1 ho1
                  have hs9 := hst.growP hr1 hg1 ho1
                  clear hr1 hg1 ho1 hst hb1
                  have hst := hs9
                  clear hs9
                  refine hK.out _ _ ⟨blk_cell hst.box 2, blk_cell hst.box 3⟩ (fun hHeld => ?_)
                  clear hK K
                  refine norm_ (a' := ?_) ?_ ?_
                  rotate_left
                  · show Act.put _ (some 137) _ = _
                    simp only [Act.put, List.setIfInBounds_toArray, List.set_cons_zero, List.set_cons_succ, i64_w, i32_w]
                    rfl
                  refine pure_ (i := 10) (N := some 143) (v := ?_) (a' := ?_) #[true, true, true, true, true, true, true, true, false, false, true, false, false, false] rfl rfl (by kernel_rfl) (fun _ _ _ h => h) (Or.inl ⟨by rfl, ?_⟩) ?_ ?_
                  rotate_left
                  · intro w'
                    go_simp
                    with_reducible rfl
                  rotate_left
                  · simp only [Act.put, List.setIfInBounds_toArray, List.set_cons_zero, List.set_cons_succ, i64_w, i32_w]
                    rfl
                  refine one_ (i := 8) (N := some 141) #[true, true, true, true, true, true, true, true, true, false, true, false, false, false] rfl rfl (by kernel_rfl) (by decide) (fun K hK => ?_)
                  refine value_ (w1 := ?_) (v := ?_) (by rfl) rfl ?_ ?_
                  rotate_left 2
                  · go_simp
                    constructor
                    · rfl
                    · rfl
                  have hb2 : (w1.alloc (.cells #[.int .i64 ((b : Int))] 3 (0, 0))).heap[w1.heap.size]? = some (.cells #[.int .i64 ((b : Int))] 3 (0, 0)) := by simpa using blk_new w1 (.cells #[.int .i64 ((b : Int))] 3 (0, 0))
                  have hs9 := hst.new (below_alloc (Below.refl _ _) (.cells #[.int .i64 ((b : Int))] 3 (0, 0)))
                  clear hst
                  have hst := hs9
                  clear hs9
                  refine hK.out _ _ ⟨blk_cell hst.box 2, blk_cell hst.box 3⟩ (fun hHeld => ?_)
                  clear hK K
                  refine norm_ (a' := ?_) ?_ ?_
                  rotate_left
                  · show Act.put _ (some 141) _ = _
                    simp only [Act.put, List.setIfInBounds_toArray, List.set_cons_zero, List.set_cons_succ, i64_w, i32_w]
                    rfl
                  exact norm_ (by simp only [putAll, Act.put, List.setIfInBounds_toArray, List.set_cons_zero, List.set_cons_succ]) (hCont (⟨w9.heap.size, v1, w1.heap.size⟩ : Nat × Value × Nat) _ ⟨⟨blk_cell hst.box 2, blk_cell hst.box 3⟩, hst, hb2⟩)
                · skip
                  refine value_ (w1 := ?_) (v := ?_) (by rfl) rfl ?_ ?_
                  rotate_left 2
                  · go_simp
                    constructor
                    · rfl
                    · rfl
                  have hb2 : ((w9.drew.alloc (.cells #[.int .i64 (0)] 3 (0, 0))).alloc (.cells #[.int .i64 ((b : Int))] 3 (0, 0))).heap[w9.heap.size + 1]? = some (.cells #[.int .i64 ((b : Int))] 3 (0, 0)) := by simpa using blk_new (w9.drew.alloc (.cells #[.int .i64 (0)] 3 (0, 0))) (.cells #[.int .i64 ((b : Int))] 3 (0, 0))
                  have hd2 : ∀ j, ((Value.slice AP ps.length cP)).ownBlock = some j → j ≠ w9.heap.size + 1 := fun j hj => Nat.ne_of_lt (by have h9 := hst.P.lt j hj; simp at h9; omega)
                  have hb1' : ((w9.drew.alloc (.cells #[.int .i64 (0)] 3 (0, 0))).alloc (.cells #[.int .i64 ((b : Int))] 3 (0, 0))).heap[_]? = some _ := blk_alloc hb1 (.cells #[.int .i64 ((b : Int))] 3 (0, 0))
                  clear hb1
                  have hb1 := hb1'
                  clear hb1'
                  have hs9 := hst.new (below_alloc (Below.refl _ _) (.cells #[.int .i64 ((b : Int))] 3 (0, 0)))
                  clear hst
                  have hst := hs9
                  clear hs9
                  refine hK.out _ _ ⟨blk_cell hst.box 2, blk_cell hst.box 3⟩ (fun hHeld => ?_)
                  clear hK K
                  refine norm_ (a' := ?_) ?_ ?_
                  rotate_left
                  · show Act.put _ (some 141) _ = _
                    simp only [Act.put, List.setIfInBounds_toArray, List.set_cons_zero, List.set_cons_succ, i64_w, i32_w]
                    rfl
                  refine one_ (i := 4) (N := some 137) #[true, true, true, true, true, true, true, true, true, false, false, false, false, false] rfl rfl (by kernel_rfl) (by decide) (fun K hK => ?_)
                  refine app_lit_step (C := w.heap.size) (.tmp 134) (.tmp 136) (v := (Value.slice AP ps.length cP)) (xs := ps) (0) ?_ ?_ ?_ ?_ hst.P hb1 hst.le (by omega) ?_
                  · rfl
                  · rfl
                  · rfl
                  · rfl
                  intro v1 w1 hr1 hg1 ho1
                  have hb2' := lit_kept hb2 hd2 hg1
                  clear hb2 hd2
                  have hb2 := hb2'
                  clear hb2'
                  have hs9 := hst.growP hr1 hg1 ho1
                  clear hr1 hg1 ho1 hst hb1
                  have hst := hs9
                  clear hs9
                  refine hK.out _ _ ⟨blk_cell hst.box 2, blk_cell hst.box 3⟩ (fun hHeld => ?_)
                  clear hK K
                  refine norm_ (a' := ?_) ?_ ?_
                  rotate_left
                  · show Act.put _ (some 137) _ = _
                    simp only [Act.put, List.setIfInBounds_toArray, List.set_cons_zero, List.set_cons_succ, i64_w, i32_w]
                    rfl
                  refine pure_ (i := 10) (N := some 143) (v := ?_) (a' := ?_) #[true, true, true, true, true, true, true, true, true, false, true, false, false, false] rfl rfl (by kernel_rfl) (fun _ _ _ h => h) (Or.inl ⟨by rfl, ?_⟩) ?_ ?_
                  rotate_left
                  · intro w'
                    go_simp
                    with_reducible rfl
                  rotate_left
                  · simp only [Act.put, List.setIfInBounds_toArray, List.set_cons_zero, List.set_cons_succ, i64_w, i32_w]
                    rfl
                  exact norm_ (by simp only [putAll, Act.put, List.setIfInBounds_toArray, List.set_cons_zero, List.set_cons_succ]) (hCont (⟨w9.heap.size, v1, w9.heap.size + 1⟩ : Nat × Value × Nat) _ ⟨⟨blk_cell hst.box 2, blk_cell hst.box 3⟩, hst, hb2⟩)
              · skip
                refine value_ (w1 := ?_) (v := ?_) (by rfl) rfl ?_ ?_
                rotate_left 2
                · go_simp
                  constructor
                  · rfl
                  · rfl
                have hb2 : (w9.drew.alloc (.cells #[.int .i64 ((b : Int))] 3 (0, 0))).heap[w9.heap.size]? = some (.cells #[.int .i64 ((b : Int))] 3 (0, 0)) := by simpa using blk_new w9.drew (.cells #[.int .i64 ((b : Int))] 3 (0, 0))
                have hd2 : ∀ j, ((Value.slice AP ps.length cP)).ownBlock = some j → j ≠ w9.heap.size := fun j hj => Nat.ne_of_lt (by have h9 := hst.P.lt j hj; simp at h9; omega)
                have hs9 := hst.new (below_alloc (Below.refl _ _) (.cells #[.int .i64 ((b : Int))] 3 (0, 0)))
                clear hst
                have hst := hs9
                clear hs9
                refine hK.out _ _ ⟨blk_cell hst.box 2, blk_cell hst.box 3⟩ (fun hHeld => ?_)
                clear hK K
                refine norm_ (a' := ?_) ?_ ?_
                rotate_left
                · show Act.put _ (some 141) _ = _
                  simp only [Act.put, List.setIfInBounds_toArray, List.set_cons_zero, List.set_cons_succ, i64_w, i32_w]
                  rfl
                refine one_ (i := 3) (N := some 136) #[true, true, true, true, false, true, true, true, true, false, false, false, false, false] rfl rfl (by kernel_rfl) (by decide) (fun K hK => ?_)
                refine value_ (w1 := ?_) (v := ?_) (by rfl) rfl ?_ ?_
                rotate_left 2
                · go_simp
                  constructor
                  · rfl
                  · rfl
                have hb1 : ((w9.drew.alloc (.cells #[.int .i64 ((b : Int))] 3 (0, 0))).alloc (.cells #[.int .i64 (0)] 3 (0, 0))).heap[w9.heap.size + 1]? = some (.cells #[.int .i64 (0)] 3 (0, 0)) := by simpa using blk_new (w9.drew.alloc (.cells #[.int .i64 ((b : Int))] 3 (0, 0))) (.cells #[.int .i64 (0)] 3 (0, 0))
                have hb2' : ((w9.drew.alloc (.cells #[.int .i64 ((b : Int))] 3 (0, 0))).alloc (.cells #[.int .i64 (0)] 3 (0, 0))).heap[_]? = some _ := blk_alloc hb2 (.cells #[.int .i64 (0)] 3 (0, 0))
                clear hb2
                have hb2 := hb2'
                clear hb2'
                have hs9 := hst.new (below_alloc (Below.refl _ _) (.cells #[.int .i64 (0)] 3 (0, 0)))
                clear hst
                have hst := hs9
                clear hs9
                refine hK.out _ _ ⟨blk_cell hst.box 2, blk_cell hst.box 3⟩ (fun hHeld => ?_)
                clear hK K
                refine norm_ (a' := ?_) ?_ ?_
                rotate_left
                · show Act.put _ (some 136) _ = _
                  simp only [Act.put, List.setIfInBounds_toArray, List.set_cons_zero, List.set_cons_succ, i64_w, i32_w]
                  rfl
                refine one_ (i := 4) (N := some 137) #[true, true, true, true, true, true, true, true, true, false, false, false, false, false] rfl rfl (by kernel_rfl) (by decide) (fun K hK => ?_)
                refine app_lit_step (C := w.heap.size) (.tmp 134) (.tmp 136) (v := (Value.slice AP ps.length cP)) (xs := ps) (0) ?_ ?_ ?_ ?_ hst.P hb1 hst.le (by omega) ?_
                · rfl
                · rfl
                · rfl
                · rfl
                intro v1 w1 hr1 hg1 ho1
                have hb2' := lit_kept hb2 hd2 hg1
                clear hb2 hd2
                have hb2 := hb2'
                clear hb2'
                have hs9 := hst.growP hr1 hg1 ho1
                clear hr1 hg1 ho1 hst hb1
                have hst := hs9
                clear hs9
                refine hK.out _ _ ⟨blk_cell hst.box 2, blk_cell hst.box 3⟩ (fun hHeld => ?_)
                clear hK K
                refine norm_ (a' := ?_) ?_ ?_
                rotate_left
                · show Act.put _ (some 137) _ = _
                  simp only [Act.put, List.setIfInBounds_toArray, List.set_cons_zero, List.set_cons_succ, i64_w, i32_w]
                  rfl
                refine pure_ (i := 10) (N := some 143) (v := ?_) (a' := ?_) #[true, true, true, true, true, true, true, true, true, false, true, false, false, false] rfl rfl (by kernel_rfl) (fun _ _ _ h => h) (Or.inl ⟨by rfl, ?_⟩) ?_ ?_
                rotate_left
                · intro w'
                  go_simp
                  with_reducible rfl
                rotate_left
                · simp only [Act.put, List.setIfInBounds_toArray, List.set_cons_zero, List.set_cons_succ, i64_w, i32_w]
                  rfl
                exact norm_ (by simp only [putAll, Act.put, List.setIfInBounds_toArray, List.set_cons_zero, List.set_cons_succ]) (hCont (⟨w9.heap.size + 1, v1, w9.heap.size⟩ : Nat × Value × Nat) _ ⟨⟨blk_cell hst.box 2, blk_cell hst.box 3⟩, hst, hb2⟩)
            rintro ⟨b1, v1, b2⟩ w5 ⟨hHeld, hst, hb2⟩
            refine norm_ (a' := ?_) ?_ ?_
            rotate_left
            · simp only [putAll, Act.put, List.setIfInBounds_toArray, List.set_cons_zero, List.set_cons_succ]
              rfl
            refine one_ (i := 9) (N := some 142) #[true, true, true, true, true, true, true, true, true, true, true, false, false, false] rfl rfl (by kernel_rfl) (by decide) (fun K hK => ?_)
            refine app_lit_step (C := w.heap.size) (.tmp 139) (.tmp 141) (v := (Value.slice AE es.length cE)) (xs := es) ((b : Int)) ?_ ?_ ?_ ?_ hst.E hb2 hst.le (by omega) ?_
            · rfl
            · rfl
            · rfl
            · rfl
            intro v2 w6 hr2 hg2 ho2
            have hs9 := hst.growE hr2 hg2 ho2
            clear hr2 hg2 ho2 hst hb2
            have hst := hs9
            clear hs9
            obtain ⟨A1_, n1_, c1_, e1_⟩ := hst.P.shape
            subst e1_
            obtain ⟨A2_, n2_, c2_, e2_⟩ := hst.E.shape
            subst e2_
            have cP_ := blk_cell hst.box 2
            have cE_ := blk_cell hst.box 3
            have fP_ := blk_frozen hst.box 2
            have fE_ := blk_frozen hst.box 3
            refine hK.out _ _ ⟨blk_cell hst.box 2, blk_cell hst.box 3⟩ (fun hHeld => ?_)
            clear hK K
            refine norm_ (a' := ?_) ?_ ?_
            rotate_left
            · show Act.put _ (some 142) _ = _
              simp only [Act.put, List.setIfInBounds_toArray, List.set_cons_zero, List.set_cons_succ, i64_w, i32_w]
              rfl
            refine last_ (i := 11) (N := none) #[true, true, true, true, true, true, true, true, true, true, true, true, false, false] rfl rfl (by kernel_rfl) (by decide) (fun K hK => ?_)
            refine skip_ (w1 := ?_) (by rfl) rfl ?_ ?_
            rotate_left
            · go_simp
              rfl
            refine hK.out _ _ ?_
            clear hK K
            refine pure_ (i := 12) (N := some 144) (v := ?_) (a' := ?_) #[true, true, true, true, true, true, true, true, true, true, true, true, true, false] rfl rfl (by kernel_rfl) (fun _ _ _ h => h) (Or.inl ⟨by rfl, ?_⟩) ?_ ?_
            rotate_left
            · intro w'
              go_simp
              with_reducible rfl
            rotate_left
            · simp only [Act.put, List.setIfInBounds_toArray, List.set_cons_zero, List.set_cons_succ, i64_w, i32_w]
              rfl
            refine last_ (i := 13) (N := none) #[true, true, true, true, true, true, true, true, true, true, true, true, true, true] rfl rfl (by kernel_rfl) (by decide) (fun K hK => ?_)
            refine skip_ (w1 := ?_) (by rfl) rfl ?_ ?_
            rotate_left
            · go_simp
              rfl
            refine hK.out _ _ ?_
            clear hK K
            refine done_ (by kernel_rfl) ?_
            have hs9 := (hst.put 2 (.slice A1_ n1_ c1_) (cells2 := #[.int .i64 1, .int .i64 oI, (.slice A1_ n1_ c1_), (Value.slice AE es.length cE)]) rfl).put 3 (.slice A2_ n2_ c2_) (cells2 := #[.int .i64 1, .int .i64 oI, (.slice A1_ n1_ c1_), (.slice A2_ n2_ c2_)]) rfl
            clear hst cP_ cE_ fP_ fE_
            have hst := hs9
            clear hs9
            have hst9 := HSTd.out.two h713 hg13 hBw hst
            have HST9 := Aside0.mk hst9
            clear hst hst9 HSTd
            by_cases hb9 : b = 0
            · subst hb9
              skip
              go_wp2
              go_loopw [14, 24] (fun uv jv wr => ∃ (x dd : Nat) (acc z : List Int) (q : Nat), Aside0 (x + dd = t ∧ acc.length + dd = k ∧ z = al ++ acc) ∧ x ≤ t ∧ jv = .int .i64 x ∧ q ≤ 8 * s.size ∧ Aside0 (XDecSt w B g w.heap.size b13 s 1 oI wr q uv (.slice A1_ n1_ c1_) (.slice A2_ n2_ c2_) z (ps ++ [0]) (es ++ [((0 : Nat) : Int)])) ∧ Aside0 (valsR s 0 ((0 : Nat) : Int) dd acc 0 q = V)) (fun _ jv _ => t - (intOf jv).toNat)
              case atStart => exact ⟨f, k, [], al, q3, ⟨HFK.out, by simp, by simp⟩, by have := HFK.out; omega, rfl, hq5, HST9, HV⟩
              case round =>
                clear HST9 HV
                obtain ⟨x, dd, acc, z, q5, HL5, hx5, rfl, hq5, HST5, HV5⟩ := hrel
                by_cases hxt : x < t
                · obtain ⟨d2, hd2⟩ : ∃ d2, dd = d2 + 1 := ⟨dd - 1, by have := HL5.out.1; omega⟩
                  subst hd2
                  have j1 : (x : Int) < (t : Int) := by omega
                  have HV6 : Aside0 ((if (oneR s 0 ((0 : Nat) : Int) q5).2.1 = 0 then valsR s 0 ((0 : Nat) : Int) d2 (acc ++ [(oneR s 0 ((0 : Nat) : Int) q5).1]) 0 (oneR s 0 ((0 : Nat) : Int) q5).2.2 = V else V.2.1 = (oneR s 0 ((0 : Nat) : Int) q5).2.1)) := ⟨by
                    have := HV5.out
                    unfold valsR at this
                    rw [if_pos rfl] at this
                    by_cases h0 : (oneR s 0 ((0 : Nat) : Int) q5).2.1 = 0
                    · rw [if_pos h0]
                      rw [h0] at this
                      exact this
                    · rw [if_neg h0, ← this, valsR_bad _ _ _ _ _ _ _ h0]⟩
                  have hoat := oneR_at s 0 ((0 : Nat) : Int) q5 hq5
                  have hzl : z.length ≤ 70000 := by
                    have h1 := HL5.out.2.2
                    have h2 := HL5.out.2.1
                    have h3 := HAL.out.2
                    rw [h1, List.length_append]
                    omega
                  clear HV5
                  rw [show oneR s 0 ((0 : Nat) : Int) q5 = (0, 0, q5) from rfl] at HV6 hoat
                  have HV7 : Aside0 (valsR s 0 ((0 : Nat) : Int) d2 (acc ++ [0]) 0 q5 = V) := ⟨by have := HV6.out; rw [if_pos rfl] at this; exact this⟩
                  clear HV6
                  have hCw : w.heap.size ≤ wr.heap.size := HST5.out.tn.kept.1
                  go_wp2_with (at_builtin; (with_reducible refine app_ints (w0 := wr) (B := w.heap.size) (v := u14) (xs := z) (.tmp 170) (.tmp 172) 0 ?_ ?_ ?_ ?_ ?_ ?_ ?_ ?_ ?_); rfl; rfl; rfl; rfl; exact HST5.out.U; exact Below.refl _ _; exact hCw; omega; intro v1 w15 HI6 HB6 HG6 HO6)
                  have hst15 := HST5.out.all hBw HI6.out HG6.out HO6.out
                  have HST15 := Aside0.mk hst15
                  clear hst15 HI6 HB6 HG6 HO6 HST5
                  refine ⟨⟨_, _, _, _, ⟨x + 1, d2, acc ++ [0], z ++ [0], ⟨by have := HL5.out.1; omega, by rw [List.length_append, List.length_singleton]; have := HL5.out.2.1; omega, by rw [HL5.out.2.2, List.append_assoc]⟩, by omega, by go_num, q5, hq5, HST15, HV7⟩, rfl, rfl, rfl, rfl⟩, ?_⟩
                  simp [intOf]
                  omega
                · have hd0 : dd = 0 := by have := HL5.out.1; omega
                  subst hd0
                  have hX5 : decL s n Oq 5 d (i + 1) (al ++ acc) (ps ++ [0]) (es ++ [((0 : Nat) : Int)]) q5 = X := by
                    have h1 := HVX.out
                    have h2 : (acc, (0 : Int), q5) = V := HV5.out
                    rw [← h2] at h1
                    exact h1
                  have HX5 := Aside0.mk hX5
                  have j1 : ¬ (x : Int) < (t : Int) := by omega
                  clear hX5 HV5 HVX
                  go_wp2
                  go_roundw
                  case rel => exact ⟨i + 1, _, _, z, ps ++ [0], es ++ [((0 : Nat) : Int)], q5, by omega, by go_num, hq5, ⟨by rw [HL5.out.2.2, List.length_append]; have h2 := HL5.out.2.1; have h3 := HAL.out.1; omega, by rw [List.length_append, HLN2.out.1]; rfl, by rw [List.length_append, HLN2.out.2]; rfl⟩, HST5, ⟨by rw [HD.out, HL5.out.2.2]; exact HX5.out⟩⟩
                  case measure => simp [intOf]; omega
            · skip
              have hb0 : (0 : Int) < (b : Int) := by omega
              have hb1 : ¬ (b : Int) < 0 := by omega
              go_wp2
              go_loopw [14, 24] (fun uv jv wr => ∃ (x dd : Nat) (acc z : List Int) (q : Nat), Aside0 (x + dd = t ∧ acc.length + dd = k ∧ z = al ++ acc) ∧ x ≤ t ∧ jv = .int .i64 x ∧ q ≤ 8 * s.size ∧ Aside0 (XDecSt w B g w.heap.size b13 s 1 oI wr q uv (.slice A1_ n1_ c1_) (.slice A2_ n2_ c2_) z (ps ++ [0]) (es ++ [(b : Int)])) ∧ Aside0 (valsR s 0 (b : Int) dd acc 0 q = V)) (fun _ jv _ => t - (intOf jv).toNat)
              case atStart => exact ⟨f, k, [], al, q3, ⟨HFK.out, by simp, by simp⟩, by have := HFK.out; omega, rfl, hq5, HST9, HV⟩
              case round =>
                clear HST9 HV
                obtain ⟨x, dd, acc, z, q5, HL5, hx5, rfl, hq5, HST5, HV5⟩ := hrel
                by_cases hxt : x < t
                · obtain ⟨d2, hd2⟩ : ∃ d2, dd = d2 + 1 := ⟨dd - 1, by have := HL5.out.1; omega⟩
                  subst hd2
                  have j1 : (x : Int) < (t : Int) := by omega
                  have HV6 : Aside0 ((if (oneR s 0 (b : Int) q5).2.1 = 0 then valsR s 0 (b : Int) d2 (acc ++ [(oneR s 0 (b : Int) q5).1]) 0 (oneR s 0 (b : Int) q5).2.2 = V else V.2.1 = (oneR s 0 (b : Int) q5).2.1)) := ⟨by
                    have := HV5.out
                    unfold valsR at this
                    rw [if_pos rfl] at this
                    by_cases h0 : (oneR s 0 (b : Int) q5).2.1 = 0
                    · rw [if_pos h0]
                      rw [h0] at this
                      exact this
                    · rw [if_neg h0, ← this, valsR_bad _ _ _ _ _ _ _ h0]⟩
                  have hoat := oneR_at s 0 (b : Int) q5 hq5
                  have hzl : z.length ≤ 70000 := by
                    have h1 := HL5.out.2.2
                    have h2 := HL5.out.2.1
                    have h3 := HAL.out.2
                    rw [h1, List.length_append]
                    omega
                  clear HV5
                  rw [show oneR s 0 (b : Int) q5 = signedR s q5 (b : Int) from by unfold oneR; rw [if_neg (show ¬ (b : Int) < 0 by omega), if_pos (show (0 : Int) < (b : Int) by omega)]] at HV6 hoat
                  have hq56 := Aside0.mk (HSIGN.out wr q5 (b : Int) (by omega) hq5 HST5.out.rd)
                  generalize signedR s q5 (b : Int) = gr at hq56 HV6 hoat
                  obtain ⟨yv, e6, q6⟩ := gr
                  simp only at hq56 HV6 hoat
                  go_wp2_with fail
                  with_reducible refine hq56.out.mono ?_
                  rintro e w14 ⟨rfl, hr14, ht14⟩
                  have hst14 := HST5.out.turn hr14 ht14 hb7 (fun h => hg13 h.symm)
                  have HST14 := Aside0.mk hst14
                  clear hst14 hr14 ht14 hq56 HST5
                  cases he6 : e6 != 0 with
                  | true =>
                    have hn6' : e6 ≠ 0 := by simpa using he6
                    have HXN : Aside0 (X = none) := ⟨by have h1 := HVX.out; have h2 := HV6.out; rw [if_neg hn6'] at h2; rw [h2, if_neg hn6'] at h1; exact h1.symm⟩
                    clear hn6' HV6
                    go_wp2_with ((with_reducible refine wpList_store_row ?_ 24 (.tmp 7) (.tmp 169) ?_ w.heap.size zRice ?_ ?_ 24 zRice HST14.out.z7 (rc_info _ _ _ _) ?_ (rc_one _ _ _ _ _ _ _ _) ?_); rfl; rfl; rfl; rfl; rfl)
                    refine bodyPost_ret (results_tct rfl _ _ w.heap.size 24 zRice (0, 0) _ rfl (setRow_heap _ _ _ _ _ _ HST14.out.z7) Try.underlying24 rfl (rc_info _ _ _ _)) rfl ?_
                    exact .inl ⟨HXN.out, rfl, ⟨q6, HST14.out.rd.setRow hb7, hoat⟩, HST14.out.tn.setRow (Nat.le_refl _) hBw⟩
                  | false =>
                    have hz6 : e6 = 0 := by simpa using he6
                    subst hz6
                    have HV7 : Aside0 (valsR s 0 (b : Int) d2 (acc ++ [yv]) 0 q6 = V) := ⟨by have := HV6.out; rw [if_pos rfl] at this; exact this⟩
                    clear HV6
                    have hCw : w.heap.size ≤ w14.heap.size := HST14.out.tn.kept.1
                    go_wp2_with (at_builtin; (with_reducible refine app_ints (w0 := w14) (B := w.heap.size) (v := u14) (xs := z) (.tmp 170) (.tmp 172) (yv) ?_ ?_ ?_ ?_ ?_ ?_ ?_ ?_ ?_); rfl; rfl; rfl; rfl; exact HST14.out.U; exact Below.refl _ _; exact hCw; omega; intro v1 w15 HI6 HB6 HG6 HO6)
                    have hst15 := HST14.out.all hBw HI6.out HG6.out HO6.out
                    have HST15 := Aside0.mk hst15
                    clear hst15 HI6 HB6 HG6 HO6 HST14
                    go_wp2
                    go_roundw
                    case rel => exact ⟨x + 1, d2, acc ++ [yv], z ++ [yv], q6, ⟨by have := HL5.out.1; omega, by rw [List.length_append, List.length_singleton]; have := HL5.out.2.1; omega, by rw [HL5.out.2.2, List.append_assoc]⟩, by omega, by go_num, hoat, HST15, HV7⟩
                    case measure => simp [intOf]; omega
                · have hd0 : dd = 0 := by have := HL5.out.1; omega
                  subst hd0
                  have hX5 : decL s n Oq 5 d (i + 1) (al ++ acc) (ps ++ [0]) (es ++ [(b : Int)]) q5 = X := by
                    have h1 := HVX.out
                    have h2 : (acc, (0 : Int), q5) = V := HV5.out
                    rw [← h2] at h1
                    exact h1
                  have HX5 := Aside0.mk hX5
                  have j1 : ¬ (x : Int) < (t : Int) := by omega
                  clear hX5 HV5 HVX
                  go_wp2
                  go_roundw
                  case rel => exact ⟨i + 1, _, _, z, ps ++ [0], es ++ [(b : Int)], q5, by omega, by go_num, hq5, ⟨by rw [HL5.out.2.2, List.length_append]; have h2 := HL5.out.2.1; have h3 := HAL.out.1; omega, by rw [List.length_append, HLN2.out.1]; rfl, by rw [List.length_append, HLN2.out.2]; rfl⟩, HST5, ⟨by rw [HD.out, HL5.out.2.2]; exact HX5.out⟩⟩
                  case measure => simp [intOf]; omega
        · have hab : ((a : Int) == 31) = false := beq_eq_false_iff_ne.mpr (by omega)
          rw [if_neg (fun h => ha (by have := h.2; simpa using this))] at hH
          clear ha
          have HV0 : Aside0 (∃ V, valsR s (a : Int) (-1) k [] 0 q1 = V ∧ (if V.2.1 = 0 then decL s n Oq 5 d (i + 1) (al ++ V.1) (ps ++ [(a : Int)]) (es ++ [(-1)]) V.2.2 else none) = X) := ⟨⟨_, rfl, by have := HX2.out; rw [hH] at this; exact this⟩⟩
          obtain ⟨V, hV, hVX⟩ := HV0.out
          have HV := Aside0.mk hV
          have HVX := Aside0.mk hVX
          clear HV0 hV hVX hH HX2
          have hst8 := HST8.out.below hB (below_drew (Below.refl w8.heap.size w8))
          have HSTd := Aside0.mk hst8
          have hst := TwoRows.start hst8.r13 (by decide) hst8.P hst8.E hst8.d3 hB13
          have hpl : ps.length ≤ 65536 := by have := HLN2.out.1; omega
          have hel : es.length ≤ 65536 := by have := HLN2.out.2; omega
          clear hst8 HST8
          go_wp2
          refine start_ (n := 14) (S := fun w' => w'.cell? ⟨b13, 2, none⟩ = some ((Value.slice AP ps.length cP)) ∧ w'.cell? ⟨b13, 3, none⟩ = some ((Value.slice AE es.length cE))) (ds := [11, 13]) #[false, false, false, false, false, false, false, false, false, false, false, false, false, false] (by kernel_rfl) rfl rfl ⟨blk_cell hst.box 2, blk_cell hst.box 3⟩ (fun hHeld => ?_)
          refine pure_ (i := 0) (N := some 133) (v := ?_) (a' := ?_) #[true, false, false, false, false, false, false, false, false, false, false, false, false, false] rfl rfl (by kernel_rfl) (fun _ _ _ h => h) (Or.inl ⟨by rfl, ?_⟩) ?_ ?_
          rotate_left
          · intro w'
            go_simp
            with_reducible rfl
          rotate_left
          · simp only [Act.put, List.setIfInBounds_toArray, List.set_cons_zero, List.set_cons_succ, i64_w, i32_w]
            rfl
          refine pure_ (i := 2) (N := some 135) (v := ?_) (a' := ?_) #[true, false, true, false, false, false, false, false, false, false, false, false, false, false] rfl rfl (by kernel_rfl) (fun _ _ _ h => h) (Or.inl ⟨by rfl, ?_⟩) ?_ ?_
          rotate_left
          · intro w'
            go_simp
            with_reducible rfl
          rotate_left
          · simp only [Act.put, List.setIfInBounds_toArray, List.set_cons_zero, List.set_cons_succ, i64_w, i32_w]
            rfl
          refine pure_ (i := 5) (N := some 138) (v := ?_) (a' := ?_) #[true, false, true, false, false, true, false, false, false, false, false, false, false, false] rfl rfl (by kernel_rfl) (fun _ _ _ h => h) (Or.inl ⟨by rfl, ?_⟩) ?_ ?_
          rotate_left
          · intro w'
            go_simp
            with_reducible rfl
          rotate_left
          · simp only [Act.put, List.setIfInBounds_toArray, List.set_cons_zero, List.set_cons_succ, i64_w, i32_w]
            rfl
          refine pure_ (i := 7) (N := some 140) (v := ?_) (a' := ?_) #[true, false, true, false, false, true, false, true, false, false, false, false, false, false] rfl rfl (by kernel_rfl) (fun _ _ _ h => h) (Or.inl ⟨by rfl, ?_⟩) ?_ ?_
          rotate_left
          · intro w'
            go_simp
            with_reducible rfl
          rotate_left
          · simp only [Act.put, List.setIfInBounds_toArray, List.set_cons_zero, List.set_cons_succ, i64_w, i32_w]
            rfl
          refine take_ (i := 1) (N := some 134) (v := ?_) (a' := ?_) #[true, true, true, false, false, true, false, true, false, false, false, false, false, false] rfl rfl (by kernel_rfl) (fun _ _ _ h => h) (Or.inl ⟨by rfl, ?_⟩) hHeld ?_ ?_
          rotate_left
          · rintro w' ⟨s0, s1⟩
            go_simp
            with_reducible rfl
          rotate_left
          · simp only [Act.put, List.setIfInBounds_toArray, List.set_cons_zero, List.set_cons_succ, i64_w, i32_w]
            rfl
          refine take_ (i := 6) (N := some 139) (v := ?_) (a' := ?_) #[true, true, true, false, false, true, true, true, false, false, false, false, false, false] rfl rfl (by kernel_rfl) (fun _ _ _ h => h) (Or.inl ⟨by rfl, ?_⟩) hHeld ?_ ?_
          rotate_left
          · rintro w' ⟨s0, s1⟩
            go_simp
            with_reducible rfl
          rotate_left
          · simp only [Act.put, List.setIfInBounds_toArray, List.set_cons_zero, List.set_cons_succ, i64_w, i32_w]
            rfl
          refine join_ (σ := Nat × Value × Nat) 4 #[true, true, true, true, true, true, true, true, true, false, true, false, false, false] (fun s_ => [(136, .slice (some ⟨s_.1, 0, none⟩) 1 1), (137, s_.2.1), (141, .slice (some ⟨s_.2.2, 0, none⟩) 1 1), (143, .pointer (some ⟨b13, 2, none⟩))]) (fun s_ w' => (w'.cell? ⟨b13, 2, none⟩ = some ((Value.slice AP ps.length cP)) ∧ w'.cell? ⟨b13, 3, none⟩ = some ((Value.slice AE es.length cE))) ∧ TwoRows w.heap.size b13 24 w8.drew ((Value.slice AP ps.length cP)) ((Value.slice AE es.length cE)) w' #[.int .i64 1, .int .i64 oI, (Value.slice AP ps.length cP), (Value.slice AE es.length cE)] s_.2.1 ((Value.slice AE es.length cE)) (ps ++ [(a : Int)]) (es) ∧ w'.heap[s_.2.2]? = some (.cells #[.int .i64 ((-1))] 3 (0, 0))) ?_ ?_
          rotate_left
          · intro hCont
            refine two_ (i := 3) (j := 8) (Ni := some 136) (Nj := some 141) #[true, true, true, true, false, true, true, true, false, false, false, false, false, false] #[true, true, true, false, false, true, true, true, true, false, false, false, false, false] rfl rfl rfl rfl (by kernel_rfl) (by decide) (by decide) (fun K hK => ?_) (fun K hK => ?_)
            · skip
              refine value_ (w1 := ?_) (v := ?_) (by rfl) rfl ?_ ?_
              rotate_left 2
              · go_simp
                constructor
                · rfl
                · rfl
              have hb1 : (w8.drew.alloc (.cells #[.int .i64 ((a : Int))] 3 (0, 0))).heap[w8.heap.size]? = some (.cells #[.int .i64 ((a : Int))] 3 (0, 0)) := by simpa using blk_new w8.drew (.cells #[.int .i64 ((a : Int))] 3 (0, 0))
              have hs9 := hst.new (below_alloc (Below.refl _ _) (.cells #[.int .i64 ((a : Int))] 3 (0, 0)))
              clear hst
              have hst := hs9
              clear hs9
              refine hK.out _ _ ⟨blk_cell hst.box 2, blk_cell hst.box 3⟩ (fun hHeld => ?_)
              clear hK K
              refine norm_ (a' := ?_) ?_ ?_
              rotate_left
              · show Act.put _ (some 136) _ = _
                simp only [Act.put, List.setIfInBounds_toArray, List.set_cons_zero, List.set_cons_succ, i64_w, i32_w]
                rfl
              refine two_ (i := 4) (j := 8) (Ni := some 137) (Nj := some 141) #[true, true, true, true, true, true, true, true, false, false, false, false, false, false] #[true, true, true, true, false, true, true, true, true, false, false, false, false, false] rfl rfl rfl rfl (by kernel_rfl) (by decide) (by decide) (fun K hK => ?_) (fun K hK => ?_)
              · skip
                refine app_lit_step (C := w.heap.size) (.tmp 134) (.tmp 136) (v := (Value.slice AP ps.length cP)) (xs := ps) ((a : Int)) ?_ ?_ ?_ ?_ hst.P hb1 hst.le (by omega) ?_
                · rfl
                · rfl
                · rfl
                · rfl
                intro v1 w1 hr1 hg1 ho1
                have hs9 := hst.growP hr1 hg1 ho1
                clear hr1 hg1 ho1 hst hb1
                have hst := hs9
                clear hs9
                refine hK.out _ _ ⟨blk_cell hst.box 2, blk_cell hst.box 3⟩ (fun hHeld => ?_)
                clear hK K
                refine norm_ (a' := ?_) ?_ ?_
                rotate_left
                · show Act.put _ (some 137) _ = _
                  simp only [Act.put, List.setIfInBounds_toArray, List.set_cons_zero, List.set_cons_succ, i64_w, i32_w]
                  rfl
                refine pure_ (i := 10) (N := some 143) (v := ?_) (a' := ?_) #[true, true, true, true, true, true, true, true, false, false, true, false, false, false] rfl rfl (by kernel_rfl) (fun _ _ _ h => h) (Or.inl ⟨by rfl, ?_⟩) ?_ ?_
                rotate_left
                · intro w'
                  go_simp
                  with_reducible rfl
                rotate_left
                · simp only [Act.put, List.setIfInBounds_toArray, List.set_cons_zero, List.set_cons_succ, i64_w, i32_w]
                  rfl
                refine one_ (i := 8) (N := some 141) #[true, true, true, true, true, true, true, true, true, false, true, false, false, false] rfl rfl (by kernel_rfl) (by decide) (fun K hK => ?_)
                refine value_ (w1 := ?_) (v := ?_) (by rfl) rfl ?_ ?_
                rotate_left 2
                · go_simp
                  constructor
                  · rfl
                  · rfl
                have hb2 : (w1.alloc (.cells #[.int .i64 ((-1))] 3 (0, 0))).heap[w1.heap.size]? = some (.cells #[.int .i64 ((-1))] 3 (0, 0)) := by simpa using blk_new w1 (.cells #[.int .i64 ((-1))] 3 (0, 0))
                have hs9 := hst.new (below_alloc (Below.refl _ _) (.cells #[.int .i64 ((-1))] 3 (0, 0)))
                clear hst
                have hst := hs9
                clear hs9
                refine hK.out _ _ ⟨blk_cell hst.box 2, blk_cell hst.box 3⟩ (fun hHeld => ?_)
                clear hK K
                refine norm_ (a' := ?_) ?_ ?_
                rotate_left
                · show Act.put _ (some 141) _ = _
                  simp only [Act.put, List.setIfInBounds_toArray, List.set_cons_zero, List.set_cons_succ, i64_w, i32_w]
                  rfl
                exact norm_ (by simp only [putAll, Act.put, List.setIfInBounds_toArray, List.set_cons_zero, List.set_cons_succ]) (hCont (⟨w8.heap.size, v1, w1.heap.size⟩ : Nat × Value × Nat) _ ⟨⟨blk_cell hst.box 2, blk_cell hst.box 3⟩, hst, hb2⟩)
              · skip
                refine value_ (w1 := ?_) (v := ?_) (by rfl) rfl ?_ ?_
                rotate_left 2
                · go_simp
                  constructor
                  · rfl
                  · rfl
                have hb2 : ((w8.drew.alloc (.cells #[.int .i64 ((a : Int))] 3 (0, 0))).alloc (.cells #[.int .i64 ((-1))] 3 (0, 0))).heap[w8.heap.size + 1]? = some (.cells #[.int .i64 ((-1))] 3 (0, 0)) := by simpa using blk_new (w8.drew.alloc (.cells #[.int .i64 ((a : Int))] 3 (0, 0))) (.cells #[.int .i64 ((-1))] 3 (0, 0))
                have hd2 : ∀ j, ((Value.slice AP ps.length cP)).ownBlock = some j → j ≠ w8.heap.size + 1 := fun j hj => Nat.ne_of_lt (by have h9 := hst.P.lt j hj; simp at h9; omega)
                have hb1' : ((w8.drew.alloc (.cells #[.int .i64 ((a : Int))] 3 (0, 0))).alloc (.cells #[.int .i64 ((-1))] 3 (0, 0))).heap[_]? = some _ := blk_alloc hb1 (.cells #[.int .i64 ((-1))] 3 (0, 0))
                clear hb1
                have hb1 := hb1'
                clear hb1'
                have hs9 := hst.new (below_alloc (Below.refl _ _) (.cells #[.int .i64 ((-1))] 3 (0, 0)))
                clear hst
                have hst := hs9
                clear hs9
                refine hK.out _ _ ⟨blk_cell hst.box 2, blk_cell hst.box 3⟩ (fun hHeld => ?_)
                clear hK K
                refine norm_ (a' := ?_) ?_ ?_
                rotate_left
                · show Act.put _ (some 141) _ = _
                  simp only [Act.put, List.setIfInBounds_toArray, List.set_cons_zero, List.set_cons_succ, i64_w, i32_w]
                  rfl
                refine one_ (i := 4) (N := some 137) #[true, true, true, true, true, true, true, true, true, false, false, false, false, false] rfl rfl (by kernel_rfl) (by decide) (fun K hK => ?_)
                refine app_lit_step (C := w.heap.size) (.tmp 134) (.tmp 136) (v := (Value.slice AP ps.length cP)) (xs := ps) ((a : Int)) ?_ ?_ ?_ ?_ hst.P hb1 hst.le (by omega) ?_
                · rfl
                · rfl
                · rfl
                · rfl
                intro v1 w1 hr1 hg1 ho1
                have hb2' := lit_kept hb2 hd2 hg1
                clear hb2 hd2
                have hb2 := hb2'
                clear hb2'
                have hs9 := hst.growP hr1 hg1 ho1
                clear hr1 hg1 ho1 hst hb1
                have hst := hs9
                clear hs9
                refine hK.out _ _ ⟨blk_cell hst.box 2, blk_cell hst.box 3⟩ (fun hHeld => ?_)
                clear hK K
                refine norm_ (a' := ?_) ?_ ?_
                rotate_left
                · show Act.put _ (some 137) _ = _
                  simp only [Act.put, List.setIfInBounds_toArray, List.set_cons_zero, List.set_cons_succ, i64_w, i32_w]
                  rfl
                refine pure_ (i := 10) (N := some 143) (v := ?_) (a' := ?_) #[true, true, true, true, true, true, true, true, true, false, true, false, false, false] rfl rfl (by kernel_rfl) (fun _ _ _ h => h) (Or.inl ⟨by rfl, ?_⟩) ?_ ?_
                rotate_left
                · intro w'
                  go_simp
                  with_reducible rfl
                rotate_left
                · simp only [Act.put, List.setIfInBounds_toArray, List.set_cons_zero, List.set_cons_succ, i64_w, i32_w]
                  rfl
                exact norm_ (by simp only [putAll, Act.put, List.setIfInBounds_toArray, List.set_cons_zero, List.set_cons_succ]) (hCont (⟨w8.heap.size, v1, w8.heap.size + 1⟩ : Nat × Value × Nat) _ ⟨⟨blk_cell hst.box 2, blk_cell hst.box 3⟩, hst, hb2⟩)
            · skip
              refine value_ (w1 := ?_) (v := ?_) (by rfl) rfl ?_ ?_
              rotate_left 2
              · go_simp
                constructor
                · rfl
                · rfl
              have hb2 : (w8.drew.alloc (.cells #[.int .i64 ((-1))] 3 (0, 0))).heap[w8.heap.size]? = some (.cells #[.int .i64 ((-1))] 3 (0, 0)) := by simpa using blk_new w8.drew (.cells #[.int .i64 ((-1))] 3 (0, 0))
              have hd2 : ∀ j, ((Value.slice AP ps.length cP)).ownBlock = some j → j ≠ w8.heap.size := fun j hj => Nat.ne_of_lt (by have h9 := hst.P.lt j hj; simp at h9; omega)
              have hs9 := hst.new (below_alloc (Below.refl _ _) (.cells #[.int .i64 ((-1))] 3 (0, 0)))
              clear hst
              have hst := hs9
              clear hs9
              refine hK.out _ _ ⟨blk_cell hst.box 2, blk_cell hst.box 3⟩ (fun hHeld => ?_)
              clear hK K
              refine norm_ (a' := ?_) ?_ ?_
              rotate_left
              · show Act.put _ (some 141) _ = _
                simp only [Act.put, List.setIfInBounds_toArray, List.set_cons_zero, List.set_cons_succ, i64_w, i32_w]
                rfl
              refine one_ (i := 3) (N := some 136) #[true, true, true, true, false, true, true, true, true, false, false, false, false, false] rfl rfl (by kernel_rfl) (by decide) (fun K hK => ?_)
              refine value_ (w1 := ?_) (v := ?_) (by rfl) rfl ?_ ?_
              rotate_left 2
              · go_simp
                constructor
                · rfl
                · rfl
              have hb1 : ((w8.drew.alloc (.cells #[.int .i64 ((-1))] 3 (0, 0))).alloc (.cells #[.int .i64 ((a : Int))] 3 (0, 0))).heap[w8.heap.size + 1]? = some (.cells #[.int .i64 ((a : Int))] 3 (0, 0)) := by simpa using blk_new (w8.drew.alloc (.cells #[.int .i64 ((-1))] 3 (0, 0))) (.cells #[.int .i64 ((a : Int))] 3 (0, 0))
              have hb2' : ((w8.drew.alloc (.cells #[.int .i64 ((-1))] 3 (0, 0))).alloc (.cells #[.int .i64 ((a : Int))] 3 (0, 0))).heap[_]? = some _ := blk_alloc hb2 (.cells #[.int .i64 ((a : Int))] 3 (0, 0))
              clear hb2
              have hb2 := hb2'
              clear hb2'
              have hs9 := hst.new (below_alloc (Below.refl _ _) (.cells #[.int .i64 ((a : Int))] 3 (0, 0)))
              clear hst
              have hst := hs9
              clear hs9
              refine hK.out _ _ ⟨blk_cell hst.box 2, blk_cell hst.box 3⟩ (fun hHeld => ?_)
              clear hK K
              refine norm_ (a' := ?_) ?_ ?_
              rotate_left
              · show Act.put _ (some 136) _ = _
                simp only [Act.put, List.setIfInBounds_toArray, List.set_cons_zero, List.set_cons_succ, i64_w, i32_w]
                rfl
              refine one_ (i := 4) (N := some 137) #[true, true, true, true, true, true, true, true, true, false, false, false, false, false] rfl rfl (by kernel_rfl) (by decide) (fun K hK => ?_)
              refine app_lit_step (C := w.heap.size) (.tmp 134) (.tmp 136) (v := (Value.slice AP ps.length cP)) (xs := ps) ((a : Int)) ?_ ?_ ?_ ?_ hst.P hb1 hst.le (by omega) ?_
              · rfl
              · rfl
              · rfl
              · rfl
              intro v1 w1 hr1 hg1 ho1
              have hb2' := lit_kept hb2 hd2 hg1
              clear hb2 hd2
              have hb2 := hb2'
              clear hb2'
              have hs9 := hst.growP hr1 hg1 ho1
              clear hr1 hg1 ho1 hst hb1
              have hst := hs9
              clear hs9
              refine hK.out _ _ ⟨blk_cell hst.box 2, blk_cell hst.box 3⟩ (fun hHeld => ?_)
              clear hK K
              refine norm_ (a' := ?_) ?_ ?_
              rotate_left
              · show Act.put _ (some 137) _ = _
                simp only [Act.put, List.setIfInBounds_toArray, List.set_cons_zero, List.set_cons_succ, i64_w, i32_w]
                rfl
              refine pure_ (i := 10) (N := some 143) (v := ?_) (a' := ?_) #[true, true, true, true, true, true, true, true, true, false, true, false, false, false] rfl rfl (by kernel_rfl) (fun _ _ _ h => h) (Or.inl ⟨by rfl, ?_⟩) ?_ ?_
              rotate_left
              · intro w'
                go_simp
                with_reducible rfl
              rotate_left
              · simp only [Act.put, List.setIfInBounds_toArray, List.set_cons_zero, List.set_cons_succ, i64_w, i32_w]
                rfl
              exact norm_ (by simp only [putAll, Act.put, List.setIfInBounds_toArray, List.set_cons_zero, List.set_cons_succ]) (hCont (⟨w8.heap.size + 1, v1, w8.heap.size⟩ : Nat × Value × Nat) _ ⟨⟨blk_cell hst.box 2, blk_cell hst.box 3⟩, hst, hb2⟩)
          rintro ⟨b1, v1, b2⟩ w5 ⟨hHeld, hst, hb2⟩
          refine norm_ (a' := ?_) ?_ ?_
          rotate_left
          · simp only [putAll, Act.put, List.setIfInBounds_toArray, List.set_cons_zero, List.set_cons_succ]
            rfl
          refine one_ (i := 9) (N := some 142) #[true, true, true, true, true, true, true, true, true, true, true, false, false, false] rfl rfl (by kernel_rfl) (by decide) (fun K hK => ?_)
          refine app_lit_step (C := w.heap.size) (.tmp 139) (.tmp 141) (v := (Value.slice AE es.length cE)) (xs := es) ((-1)) ?_ ?_ ?_ ?_ hst.E hb2 hst.le (by omega) ?_
          · rfl
          · rfl
          · rfl
          · rfl
          intro v2 w6 hr2 hg2 ho2
          have hs9 := hst.growE hr2 hg2 ho2
          clear hr2 hg2 ho2 hst hb2
          have hst := hs9
          clear hs9
          obtain ⟨A1_, n1_, c1_, e1_⟩ := hst.P.shape
          subst e1_
          obtain ⟨A2_, n2_, c2_, e2_⟩ := hst.E.shape
          subst e2_
          have cP_ := blk_cell hst.box 2
          have cE_ := blk_cell hst.box 3
          have fP_ := blk_frozen hst.box 2
          have fE_ := blk_frozen hst.box 3
          refine hK.out _ _ ⟨blk_cell hst.box 2, blk_cell hst.box 3⟩ (fun hHeld => ?_)
          clear hK K
          refine norm_ (a' := ?_) ?_ ?_
          rotate_left
          · show Act.put _ (some 142) _ = _
            simp only [Act.put, List.setIfInBounds_toArray, List.set_cons_zero, List.set_cons_succ, i64_w, i32_w]
            rfl
          refine last_ (i := 11) (N := none) #[true, true, true, true, true, true, true, true, true, true, true, true, false, false] rfl rfl (by kernel_rfl) (by decide) (fun K hK => ?_)
          refine skip_ (w1 := ?_) (by rfl) rfl ?_ ?_
          rotate_left
          · go_simp
            rfl
          refine hK.out _ _ ?_
          clear hK K
          refine pure_ (i := 12) (N := some 144) (v := ?_) (a' := ?_) #[true, true, true, true, true, true, true, true, true, true, true, true, true, false] rfl rfl (by kernel_rfl) (fun _ _ _ h => h) (Or.inl ⟨by rfl, ?_⟩) ?_ ?_
          rotate_left
          · intro w'
            go_simp
            with_reducible rfl
          rotate_left
          · simp only [Act.put, List.setIfInBounds_toArray, List.set_cons_zero, List.set_cons_succ, i64_w, i32_w]
            rfl
          refine last_ (i := 13) (N := none) #[true, true, true, true, true, true, true, true, true, true, true, true, true, true] rfl rfl (by kernel_rfl) (by decide) (fun K hK => ?_)
          refine skip_ (w1 := ?_) (by rfl) rfl ?_ ?_
          rotate_left
          · go_simp
            rfl
          refine hK.out _ _ ?_
          clear hK K
          refine done_ (by kernel_rfl) ?_
          have hs9 := (hst.put 2 (.slice A1_ n1_ c1_) (cells2 := #[.int .i64 1, .int .i64 oI, (.slice A1_ n1_ c1_), (Value.slice AE es.length cE)]) rfl).put 3 (.slice A2_ n2_ c2_) (cells2 := #[.int .i64 1, .int .i64 oI, (.slice A1_ n1_ c1_), (.slice A2_ n2_ c2_)]) rfl
          clear hst cP_ cE_ fP_ fE_
          have hst := hs9
          clear hs9
          have hst9 := HSTd.out.two h713 hg13 hBw hst
          have HST9 := Aside0.mk hst9
          clear hst hst9 HSTd
          skip
          go_wp2
          go_loopw [14, 24] (fun uv jv wr => ∃ (x dd : Nat) (acc z : List Int) (q : Nat), Aside0 (x + dd = t ∧ acc.length + dd = k ∧ z = al ++ acc) ∧ x ≤ t ∧ jv = .int .i64 x ∧ q ≤ 8 * s.size ∧ Aside0 (XDecSt w B g w.heap.size b13 s 1 oI wr q uv (.slice A1_ n1_ c1_) (.slice A2_ n2_ c2_) z (ps ++ [(a : Int)]) (es ++ [(-1)])) ∧ Aside0 (valsR s (a : Int) (-1) dd acc 0 q = V)) (fun _ jv _ => t - (intOf jv).toNat)
          case atStart => exact ⟨f, k, [], al, q1, ⟨HFK.out, by simp, by simp⟩, by have := HFK.out; omega, rfl, hqa, HST9, HV⟩
          case round =>
            clear HST9 HV
            obtain ⟨x, dd, acc, z, q5, HL5, hx5, rfl, hq5, HST5, HV5⟩ := hrel
            by_cases hxt : x < t
            · obtain ⟨d2, hd2⟩ : ∃ d2, dd = d2 + 1 := ⟨dd - 1, by have := HL5.out.1; omega⟩
              subst hd2
              have j1 : (x : Int) < (t : Int) := by omega
              have HV6 : Aside0 ((if (oneR s (a : Int) (-1) q5).2.1 = 0 then valsR s (a : Int) (-1) d2 (acc ++ [(oneR s (a : Int) (-1) q5).1]) 0 (oneR s (a : Int) (-1) q5).2.2 = V else V.2.1 = (oneR s (a : Int) (-1) q5).2.1)) := ⟨by
                have := HV5.out
                unfold valsR at this
                rw [if_pos rfl] at this
                by_cases h0 : (oneR s (a : Int) (-1) q5).2.1 = 0
                · rw [if_pos h0]
                  rw [h0] at this
                  exact this
                · rw [if_neg h0, ← this, valsR_bad _ _ _ _ _ _ _ h0]⟩
              have hoat := oneR_at s (a : Int) (-1) q5 hq5
              have hzl : z.length ≤ 70000 := by
                have h1 := HL5.out.2.2
                have h2 := HL5.out.2.1
                have h3 := HAL.out.2
                rw [h1, List.length_append]
                omega
              clear HV5
              rw [show oneR s (a : Int) (-1) q5 = riceR s q5 (a : Int) from if_pos (by decide)] at HV6 hoat
              have hqa6 := Aside0.mk (HRICE.out wr q5 (a : Int)  hq5 HST5.out.rd)
              generalize riceR s q5 (a : Int) = gr at hqa6 HV6 hoat
              obtain ⟨yv, e6, q6⟩ := gr
              simp only at hqa6 HV6 hoat
              go_wp2_with fail
              with_reducible refine hqa6.out.mono ?_
              rintro e w14 ⟨rfl, hr14, ht14⟩
              have hst14 := HST5.out.turn hr14 ht14 hb7 (fun h => hg13 h.symm)
              have HST14 := Aside0.mk hst14
              clear hst14 hr14 ht14 hqa6 HST5
              cases he6 : e6 != 0 with
              | true =>
                have hn6' : e6 ≠ 0 := by simpa using he6
                have HXN : Aside0 (X = none) := ⟨by have h1 := HVX.out; have h2 := HV6.out; rw [if_neg hn6'] at h2; rw [h2, if_neg hn6'] at h1; exact h1.symm⟩
                clear hn6' HV6
                go_wp2_with ((with_reducible refine wpList_store_row ?_ 24 (.tmp 7) (.tmp 169) ?_ w.heap.size zRice ?_ ?_ 24 zRice HST14.out.z7 (rc_info _ _ _ _) ?_ (rc_one _ _ _ _ _ _ _ _) ?_); rfl; rfl; rfl; rfl; rfl)
                refine bodyPost_ret (results_tct rfl _ _ w.heap.size 24 zRice (0, 0) _ rfl (setRow_heap _ _ _ _ _ _ HST14.out.z7) Try.underlying24 rfl (rc_info _ _ _ _)) rfl ?_
                exact .inl ⟨HXN.out, rfl, ⟨q6, HST14.out.rd.setRow hb7, hoat⟩, HST14.out.tn.setRow (Nat.le_refl _) hBw⟩
              | false =>
                have hz6 : e6 = 0 := by simpa using he6
                subst hz6
                have HV7 : Aside0 (valsR s (a : Int) (-1) d2 (acc ++ [yv]) 0 q6 = V) := ⟨by have := HV6.out; rw [if_pos rfl] at this; exact this⟩
                clear HV6
                have hCw : w.heap.size ≤ w14.heap.size := HST14.out.tn.kept.1
                go_wp2_with (at_builtin; (with_reducible refine app_ints (w0 := w14) (B := w.heap.size) (v := u14) (xs := z) (.tmp 170) (.tmp 172) (yv) ?_ ?_ ?_ ?_ ?_ ?_ ?_ ?_ ?_); rfl; rfl; rfl; rfl; exact HST14.out.U; exact Below.refl _ _; exact hCw; omega; intro v1 w15 HI6 HB6 HG6 HO6)
                have hst15 := HST14.out.all hBw HI6.out HG6.out HO6.out
                have HST15 := Aside0.mk hst15
                clear hst15 HI6 HB6 HG6 HO6 HST14
                go_wp2
                go_roundw
                case rel => exact ⟨x + 1, d2, acc ++ [yv], z ++ [yv], q6, ⟨by have := HL5.out.1; omega, by rw [List.length_append, List.length_singleton]; have := HL5.out.2.1; omega, by rw [HL5.out.2.2, List.append_assoc]⟩, by omega, by go_num, hoat, HST15, HV7⟩
                case measure => simp [intOf]; omega
            · have hd0 : dd = 0 := by have := HL5.out.1; omega
              subst hd0
              have hX5 : decL s n Oq 5 d (i + 1) (al ++ acc) (ps ++ [(a : Int)]) (es ++ [(-1)]) q5 = X := by
                have h1 := HVX.out
                have h2 : (acc, (0 : Int), q5) = V := HV5.out
                rw [← h2] at h1
                exact h1
              have HX5 := Aside0.mk hX5
              have j1 : ¬ (x : Int) < (t : Int) := by omega
              clear hX5 HV5 HVX
              go_wp2
              go_roundw
              case rel => exact ⟨i + 1, _, _, z, ps ++ [(a : Int)], es ++ [(-1)], q5, by omega, by go_num, hq5, ⟨by rw [HL5.out.2.2, List.length_append]; have h2 := HL5.out.2.1; have h3 := HAL.out.1; omega, by rw [List.length_append, HLN2.out.1]; rfl, by rw [List.length_append, HLN2.out.2]; rfl⟩, HST5, ⟨by rw [HD.out, HL5.out.2.2]; exact HX5.out⟩⟩
              case measure => simp [intOf]; omega
    · obtain rfl : i = N := by omega
      have hXS : X = some (al, ps, es, q) := by have := HX.out; rw [Nat.sub_self] at this; exact this.symm
      have HXS := Aside0.mk hXS
      clear hXS HX
      obtain ⟨AP_, nP_, cP_, eP_⟩ := HST.out.P.shape
      subst eP_
      obtain ⟨AE_, nE_, cE_, eE_⟩ := HST.out.E.shape
      subst eE_
      have i2 : ¬ (i : Int) < (i : Int) := Int.lt_irrefl _
      have e1 := blk_cell HST.out.r13 1
      have hst := HST.out.below hB (below_drew (Below.refl wr.heap.size wr))
      clear HST
      obtain ⟨j9, j0, j1, j2, j3, j4, ju⟩ := HJ.out
      go_wp2
      clear j9 j0 j1 j2 j3 j4 ju e1
      refine start_ (n := 5) (S := fun w' => w'.cell? ⟨b13, 0, none⟩ = some (.int .i64 1) ∧ w'.cell? ⟨b13, 1, none⟩ = some (.int .i64 oI) ∧ w'.cell? ⟨b13, 2, none⟩ = some (.slice AP_ nP_ cP_) ∧ w'.cell? ⟨b13, 3, none⟩ = some (.slice AE_ nE_ cE_)) (ds := [3]) #[false, false, false, false, false] (by kernel_rfl) rfl rfl ⟨blk_cell hst.r13 0, blk_cell hst.r13 1, blk_cell hst.r13 2, blk_cell hst.r13 3⟩ (fun hHeld => ?_)
      refine pure_ (i := 0) (N := some 174) (v := ?_) (a' := ?_) #[true, false, false, false, false] rfl rfl (by kernel_rfl) (fun _ _ _ h => h) (Or.inl ⟨by rfl, ?_⟩) ?_ ?_
      rotate_left
      · intro w'
        go_simp
        with_reducible rfl
      rotate_left
      · simp only [Act.put, List.setIfInBounds_toArray, List.set_cons_zero, List.set_cons_succ, i64_w, i32_w]
        rfl
      refine pure_ (i := 2) (N := some 6) (v := ?_) (a' := ?_) #[true, false, true, false, false] rfl rfl (by kernel_rfl) (fun _ _ _ h => h) (Or.inl ⟨by rfl, ?_⟩) ?_ ?_
      rotate_left
      · intro w'
        go_simp
        with_reducible rfl
      rotate_left
      · simp only [Act.put, List.setIfInBounds_toArray, List.set_cons_zero, List.set_cons_succ, i64_w, i32_w]
        rfl
      refine take_ (i := 1) (N := some 175) (v := ?_) (a' := ?_) #[true, true, true, false, false] rfl rfl (by kernel_rfl) (fun _ _ _ h => h) (Or.inl ⟨by rfl, ?_⟩) hHeld ?_ ?_
      rotate_left
      · rintro w' ⟨s0, s1, s2, s3⟩
        go_simp
        with_reducible rfl
      rotate_left
      · simp only [Act.put, List.setIfInBounds_toArray, List.set_cons_zero, List.set_cons_succ, i64_w, i32_w]
        rfl
      refine last_ (i := 3) (N := none) #[true, true, true, true, false] rfl rfl (by kernel_rfl) (by decide) (fun K hK => ?_)
      refine store_row_step 24 (.tmp 7) (.tmp 175) ?_ ?_ w.heap.size #[.int .i64 1, .int .i64 oI, .slice AP_ nP_ cP_, .slice AE_ nE_ cE_] ?_ ?_ 24 zRice hst.z7 (rc_info _ _ _ _) ?_ (rc_one _ _ _ _ _ _ _ _) ?_
      · rfl
      · rfl
      · rfl
      · rfl
      · rfl
      refine hK.out _ _ ?_
      clear hK K
      refine pure_ (i := 4) (N := some 8) (v := ?_) (a' := ?_) #[true, true, true, true, true] rfl rfl (by kernel_rfl) (fun _ _ _ h => h) (Or.inl ⟨by rfl, ?_⟩) ?_ ?_
      rotate_left
      · intro w'
        go_simp
        with_reducible rfl
      rotate_left
      · simp only [Act.put, List.setIfInBounds_toArray, List.set_cons_zero, List.set_cons_succ, i64_w, i32_w]
        rfl
      refine done_ (by kernel_rfl) ?_
      go_wp2
      refine bodyPost_ret (results_tct rfl _ _ w.heap.size 24 #[.int .i64 1, .int .i64 oI, .slice AP_ nP_ cP_, .slice AE_ nE_ cE_] (0, 0) _ rfl (setRow_heap _ _ _ _ _ _ hst.z7) Try.underlying24 rfl (rc_info _ _ _ _)) rfl ?_
      exact .inr ⟨al, ps, es, q, _, _, _, HXS.out, rfl, hst.U.setRow hst.z7 (by decide), hst.P.setRow hst.z7 (by decide), hst.E.setRow hst.z7 (by decide), hst.rd.setRow hb7, hq, hst.tn.setRow (Nat.le_refl _) hBw⟩
end Go.Proofs.Ytfhekkoibmlmpaa.Hand

/- Contracts of layer 8, proved by hand: the reference's Decode, whole. -/
namespace Go.Proofs.Ytfhekkoibmlmpaa.Hand
open Go.RowKit Go.Proofs.Ytfhekkoibmlmpaa.Q Go.Proofs.YtfhekkoibmlmpaaW.PrintWords Go.Proofs.YtfhekkoibmlmpaaW.PrintLast Go.Proofs.YtfhekkoibmlmpaaW.PrintMore
set_option linter.unusedVariables false
set_option linter.unusedSimpArgs false

theorem RDecode_any (s : ByteArray) (hs : s.size ≤ 281474976710656) (p : Nat) (hp : p ≤ 8 * s.size) (block order : Int) (B g : Nat) (hB : B ≤ g) (w : World) (hBw : B ≤ w.heap.size) (hR : XAt w g s p) :
    Calls Try.prog 22 #[.pointer (some ⟨g, 0, none⟩), .int .i64 block, .int .i64 order] w fun e w' => ∃ vl vP vE,
      e = .returned (.tuple #[vl, .agg #[.int .i64 (decF s p block order).1, .int .i64 (decF s p block order).2.1, vP, vE], .int .i64 (decF s p block order).2.2.2.2.2.1]) ∧
      IntsAt w' w.heap.size vl (decF s p block order).2.2.1 ∧ IntsAt w' w.heap.size vP (decF s p block order).2.2.2.1 ∧ IntsAt w' w.heap.size vE (decF s p block order).2.2.2.2.1 ∧
      (∃ q, XAt w' g s q ∧ q ≤ 8 * s.size ∧ ((decF s p block order).2.2.2.2.2.1 = 0 → q = (decF s p block order).2.2.2.2.2.2)) ∧ Turned B g w w' := by
  by_cases hbad : badArgs block order
  · have e : decF s p block order = (0, 0, [], [], [], 1, p) := if_pos hbad
    rw [e]
    refine (RDecode_arg block order _ w (.inr ⟨g, rfl, hbad⟩)).mono fun e w' ⟨h1, h2⟩ => ?_
    exact ⟨_, _, _, h1, IntsAt.nil _ _, IntsAt.nil _ _, IntsAt.nil _ _, ⟨p, hR.below h2, hp, fun _ => rfl⟩, (Turned.refl B g w).new h2 hBw⟩
  · by_cases hh : headD s p block order
    · have e : decF s p block order = match decX s p block order with
        | none => (0, 0, [], [], [], 2, p)
        | some (al, ps, es, q) => ((getR s p 2).1, (getR s (getR s p 2).2.2 4).1, al, ps, es, 0, q) := (if_neg hbad).trans (if_pos hh)
      rw [e]
      clear e
      obtain ⟨h1, h2, hsh⟩ := hh
      obtain ⟨O, Bk, Od, n, hO, rfl, rfl, hO15, hB0, hB1, hOd, hdiv, hdn, hn, hm⟩ := shape_nat hsh
      have hO2 : (getR s (getR s p 2).2.2 4).1 = O := by omega
      have hX : decX s p Bk Od = decL s n Od (4 + (getR s p 2).1) (2 ^ (getR s (getR s p 2).2.2 4).1) 0 [] [] [] (getR s (getR s p 2).2.2 4).2.2 := by
        unfold decX
        rw [Int.toNat_natCast] at hn
        rw [hn, Int.toNat_natCast]
      rw [← hO2] at hdiv
      have key : Calls Try.prog 22 #[.pointer (some ⟨g, 0, none⟩), .int .i64 Bk, .int .i64 Od] w (XDecPost s (getR s p 2).1 (getR s (getR s p 2).2.2 4).1 (decX s p Bk Od) w.heap.size B g w) := by
        rw [hX]
        rcases hm with hm | hm
        · have hm2 : (getR s p 2).1 = 0 := by omega
          have := RDecode_go0 s hs p hp Bk Od n hbad B g hB w hBw hR h1 h2 hm2 (by rw [← hm]; exact hsh) hdiv hdn
          rw [hm2]
          exact this
        · have hm2 : (getR s p 2).1 = 1 := by omega
          have := RDecode_go1 s hs p hp Bk Od n hbad B g hB w hBw hR h1 h2 hm2 (by rw [← hm]; exact hsh) hdiv hdn
          rw [hm2]
          exact this
      refine key.mono fun e w' hpost => ?_
      rcases hpost with ⟨hx, he, ⟨q, hr, hq⟩, ht⟩ | ⟨al, ps, es, q, vl, vP, vE, hx, he, hl, hp', he', hr, hq, ht⟩
      · rw [hx]
        exact ⟨_, _, _, he, IntsAt.nil _ _, IntsAt.nil _ _, IntsAt.nil _ _, ⟨q, hr, hq, fun h => by cases h⟩, ht⟩
      · rw [hx]
        exact ⟨_, _, _, he, hl, hp', he', ⟨q, hr, hq, fun _ => rfl⟩, ht⟩
    · have e : decF s p block order = (0, 0, [], [], [], 2, p) := (if_neg hbad).trans (if_neg hh)
      rw [e]
      refine (RDecode_head s hs p hp block order hbad B g hB w hR hh).mono fun e w' ⟨h1, ⟨q, h2, h3⟩, h4⟩ => ?_
      exact ⟨_, _, _, h1, IntsAt.nil _ _, IntsAt.nil _ _, IntsAt.nil _ _, ⟨q, h2, h3, fun h => by cases h⟩, h4⟩
end Go.Proofs.Ytfhekkoibmlmpaa.Hand

/- Contracts of layer 8, proved by hand: RiceDecodes. -/
namespace Go.Proofs.Ytfhekkoibmlmpaa.Hand
open Go.RowKit Go.Proofs.Ytfhekkoibmlmpaa.Q Go.Proofs.YtfhekkoibmlmpaaW.PrintWords Go.Proofs.YtfhekkoibmlmpaaW.PrintLast Go.Proofs.YtfhekkoibmlmpaaW.PrintMore
set_option linter.unusedVariables false
set_option linter.unusedSimpArgs false

set_option maxHeartbeats 16000000 in
set_option maxRecDepth 100000 in
theorem DecodesLaw_any (s : ByteArray) (hs : s.size ≤ 281474976710656) (block order : Int) (w : World) :
    Calls Try.prog 4 #[.string s, .int .i64 block, .int .i64 order] w fun e w' => e = .returned (.bool true) ∧ Below w.heap.size w w' := by
  have hup := Try.underlying45
  have hup2 := Try.underlying47
  obtain ⟨D, hD⟩ : ∃ D, decF s 0 block order = D := ⟨_, rfl⟩
  have HD := Aside0.mk hD
  clear hD
  go_enter Try.func4, Try.ntmps4
  go_wp2_with fail
  with_reducible refine (Of_any s w).mono ?_
  rintro e w1 ⟨rfl, rfl⟩
  have hR1 : RAt (w.alloc (.cells #[.int .i64 0, .string s] 75)) w.heap.size s 0 := blk_new w _
  have hb1 := below_alloc (Below.refl w.heap.size w) (.cells #[.int .i64 0, .string s] 75)
  have s1 : (w.alloc (.cells #[.int .i64 0, .string s] 75)).heap.size = w.heap.size + 1 := by simp
  generalize w.alloc (.cells #[.int .i64 0, .string s] 75) = w1 at hR1 hb1 s1 ⊢
  have hX2 : XAt (w1.alloc (.cells #[.string s, .int .i64 (0 : Nat)] 49)) w1.heap.size s 0 := blk_new w1 _
  have hb2 := below_alloc (Below.refl w1.heap.size w1) (.cells #[.string s, .int .i64 (0 : Nat)] 49)
  have hR2 := hR1.below hb2
  have hw2 := hb1.trans (hb2.mono hb1.size)
  rw [s1] at hX2
  go_upto_region 4 with fail
  rw [show w1.alloc (.cells #[.string s, .int .i64 0] 49) = w1.alloc (.cells #[.string s, .int .i64 (0 : Nat)] 49) from rfl]
  generalize w1.alloc (.cells #[.string s, .int .i64 (0 : Nat)] 49) = w2 at hX2 hb2 hR2 hw2 ⊢
  have hde := Decode_any s hs 0 (Nat.zero_le _) block order w.heap.size w.heap.size (Nat.le_refl _) w2 hw2.size hR2
  rw [HD.out] at hde
  have HDE := Aside0.mk hde
  have HX2 := Aside0.mk hX2
  have HR2 := Aside0.mk hR2
  have HW2 := Aside0.mk hw2
  clear hde hX2 hR2 hw2 hb1 hb2 hR1 s1
  obtain ⟨dm, dO, dl, dP, dE, er, dq⟩ := D
  simp only at HDE
  go_wp2_with fail
  with_reducible refine HDE.out.mono ?_
  rintro e w3 ⟨vl, vP, vE, rfl, hl, hP, hE, ⟨q, hr, hq, hq0⟩, ht⟩
  obtain ⟨AP, nP, cP, rfl⟩ := hP.shape
  obtain ⟨AE, nE, cE, rfl⟩ := hE.shape
  have HL3 := Aside0.mk (hl.lower HW2.out.size)
  have HP3 := Aside0.mk (hP.lower HW2.out.size)
  have HE3 := Aside0.mk (hE.lower HW2.out.size)
  have HR3 := Aside0.mk hr
  have HX3 := Aside0.mk (HX2.out.turned HR2.out ht)
  have HW3 := Aside0.mk (HW2.out.trans ht.below)
  have HQ0 := Aside0.mk hq0
  clear hl hP hE hr hq hq0 ht HDE HX2 HR2 HW2
  have HN := Aside0.mk (blk_new w3 (.cells zRice 24 (0, 0)))
  have hbN := below_setRow (below_alloc (Below.refl w3.heap.size w3) (.cells zRice 24 (0, 0))) (Nat.le_refl _) #[.int .i64 dm, .int .i64 dO, .slice AP nP cP, .slice AE nE cE]
  have HB4 := Aside0.mk (setRow_heap _ _ _ #[.int .i64 dm, .int .i64 dO, .slice AP nP cP, .slice AE nE cE] _ _ HN.out)
  have HL4 := Aside0.mk (HL3.out.below hbN)
  have HP4 := Aside0.mk (HP3.out.below hbN)
  have HE4 := Aside0.mk (HE3.out.below hbN)
  have HR4 := Aside0.mk (HR3.out.below hbN)
  have HX4 := Aside0.mk (HX3.out.below hbN)
  have HW4 := Aside0.mk (HW3.out.trans (hbN.mono HW3.out.size))
  have hx3 := HX3.out.lt
  clear hbN HL3 HP3 HE3 HR3 HX3 HW3
  go_upto_region 5 with ((with_reducible refine wpList_store_row ?_ 24 (.tmp 10) (.tmp 31) ?_ (w3.heap.size) (#[.int .i64 dm, .int .i64 dO, .slice AP nP cP, .slice AE nE cE]) ?_ ?_ 24 (zRice) (HN.out) (rc_info _ _ _ _) ?_ (rc_one _ _ _ _ _ _ _ _) ?_); rfl; rfl; rfl; rfl; rfl)
  generalize (w3.alloc (.cells zRice 24 (0, 0))).setRow w3.heap.size #[.int .i64 dm, .int .i64 dO, .slice AP nP cP, .slice AE nE cE] = w4 at *
  generalize w3.heap.size = g4 at *
  clear HN
  have hre := RDecode_any s hs 0 (Nat.zero_le _) block order w.heap.size (w.heap.size + 1) (Nat.le_succ _) w4 HW4.out.size HX4.out
  rw [HD.out] at hre
  have HRE := Aside0.mk hre
  clear hre
  simp only at HRE
  go_wp2_with fail
  with_reducible refine HRE.out.mono ?_
  rintro e w5 ⟨vl2, vP2, vE2, rfl, hl, hP, hE, ⟨q2, hr, hq, hq0⟩, ht⟩
  obtain ⟨AP2, nP2, cP2, rfl⟩ := hP.shape
  obtain ⟨AE2, nE2, cE2, rfl⟩ := hE.shape
  have HL5 := Aside0.mk (HL4.out.xreader HX4.out ht)
  have HP5 := Aside0.mk (HP4.out.xreader HX4.out ht)
  have HE5 := Aside0.mk (HE4.out.xreader HX4.out ht)
  have HB5 := Aside0.mk (blk_kept HB4.out ht.kept (fun e => by omega))
  have HR5 : Aside0 (RAt w5 w.heap.size s q) := ⟨blk_kept HR4.out ht.kept (fun e => by omega)⟩
  have HX5 := Aside0.mk hr
  have HL5' := Aside0.mk hl
  have HP5' := Aside0.mk hP
  have HE5' := Aside0.mk hE
  have HW5 := Aside0.mk (HW4.out.trans ht.below)
  have HQ1 := Aside0.mk hq0
  clear hl hP hE hr hq hq0 ht HRE HL4 HP4 HE4 HR4 HX4 HB4 HW4 hx3
  have HN := Aside0.mk (blk_new w5 (.cells zRice 24 (0, 0)))
  have hbN := below_setRow (below_alloc (Below.refl w5.heap.size w5) (.cells zRice 24 (0, 0))) (Nat.le_refl _) #[.int .i64 dm, .int .i64 dO, .slice AP2 nP2 cP2, .slice AE2 nE2 cE2]
  have HC6 := Aside0.mk (setRow_heap _ _ _ #[.int .i64 dm, .int .i64 dO, .slice AP2 nP2 cP2, .slice AE2 nE2 cE2] _ _ HN.out)
  have HB6 := Aside0.mk hbN
  go_upto_region 6 with ((with_reducible refine wpList_store_row ?_ 24 (.tmp 13) (.tmp 39) ?_ (w5.heap.size) (#[.int .i64 dm, .int .i64 dO, .slice AP2 nP2 cP2, .slice AE2 nE2 cE2]) ?_ ?_ 24 (zRice) (HN.out) (rc_info _ _ _ _) ?_ (rc_one _ _ _ _ _ _ _ _) ?_); rfl; rfl; rfl; rfl; rfl)
  generalize (w5.alloc (.cells zRice 24 (0, 0))).setRow w5.heap.size #[.int .i64 dm, .int .i64 dO, .slice AP2 nP2 cP2, .slice AE2 nE2 cE2] = w6 at *
  obtain ⟨g6, hg6⟩ : ∃ g6, w5.heap.size = g6 := ⟨_, rfl⟩
  rw [hg6] at HC6 ⊢
  clear hg6
  clear HN hbN
  obtain ⟨A1, c1, rfl, hc1, hC1⟩ := HL5.out.C
  obtain ⟨A2, c2, rfl, hc2, hC2⟩ := HL5'.out.C
  obtain ⟨AP, cP, e3, hc3, hC3⟩ := HP5.out.C
  injection e3 with e3 e4 e5
  subst e3 e4 e5
  obtain ⟨AE, cE, e3, hc4, hC4⟩ := HE5.out.C
  injection e3 with e3 e4 e5
  subst e3 e4 e5
  obtain ⟨AP2, cP2, e3, hc5, hC5⟩ := HP5'.out.C
  injection e3 with e3 e4 e5
  subst e3 e4 e5
  obtain ⟨AE2, cE2, e3, hc6, hC6⟩ := HE5'.out.C
  injection e3 with e3 e4 e5
  subst e3 e4 e5
  have HF : Aside0 (∀ W, Below w6.heap.size w6 W → RAt W w.heap.size s q ∧ XAt W (w.heap.size + 1) s q2 ∧ W.heap[g4]? = some (.cells #[.int .i64 dm, .int .i64 dO, .slice AP dP.length cP, .slice AE dE.length cE] 24 (0, 0)) ∧ W.heap[g6]? = some (.cells #[.int .i64 dm, .int .i64 dO, .slice AP2 dP.length cP2, .slice AE2 dE.length cE2] 24 (0, 0)) ∧
      Kd.C (Kd.int .i64) W A1 dl.length dl ∧ Kd.C (Kd.int .i64) W A2 dl.length dl ∧ Kd.C (Kd.int .i64) W AP dP.length dP ∧ Kd.C (Kd.int .i64) W AE dE.length dE ∧ Kd.C (Kd.int .i64) W AP2 dP.length dP ∧ Kd.C (Kd.int .i64) W AE2 dE.length dE ∧ Below w.heap.size w W) := ⟨fun W hW => by
    have h56 : Below w5.heap.size w5 W := HB6.out.trans (hW.mono HB6.out.size)
    exact ⟨HR5.out.below h56, HX5.out.below h56, blk_below HB5.out h56, blk_below HC6.out hW, Kd.C_below hC1 h56, Kd.C_below hC2 h56, Kd.C_below hC3 h56, Kd.C_below hC4 h56, Kd.C_below hC5 h56, Kd.C_below hC6 h56, HW5.out.trans (h56.mono HW5.out.size)⟩⟩
  have HIN : Aside0 (∀ W, Below w6.heap.size w6 W → Calls Try.prog 23 #[.slice A1 dl.length c1, .slice A2 dl.length c2] W fun e w' => e = .returned (.bool true) ∧ Drawn0 W w') := ⟨fun W hW => Ints_same dl (C_len hC1) A1 c1 A2 c2 W (HF.out W hW).2.2.2.2.1 hc1 (HF.out W hW).2.2.2.2.2.1 hc2⟩
  have HSA : Aside0 (∀ W, Below w6.heap.size w6 W → Calls Try.prog 24 #[.agg #[.int .i64 dm, .int .i64 dO, .slice AP dP.length cP, .slice AE dE.length cE], .agg #[.int .i64 dm, .int .i64 dO, .slice AP2 dP.length cP2, .slice AE2 dE.length cE2]] W fun e w' => e = .returned (.bool true) ∧ Below W.heap.size W w') := ⟨fun W hW =>
    Same_same dm dO dP dE (C_len hC4) (C_len hC3) AP AE AP2 AE2 cP cE cP2 cE2 W (HF.out W hW).2.2.2.2.2.2.1 hc3 (HF.out W hW).2.2.2.2.2.2.2.1 hc4 (HF.out W hW).2.2.2.2.2.2.2.2.1 hc5 (HF.out W hW).2.2.2.2.2.2.2.2.2.1 hc6⟩
  have HAT := Aside0.mk (fun W hW => At_any s q w.heap.size W (HF.out W hW).1)
  have HSK : Aside0 (∀ W, Below w6.heap.size w6 W → W.cell? ⟨g4, 0, none⟩ = some (.int .i64 dm) ∧ W.cell? ⟨g4, 1, none⟩ = some (.int .i64 dO) ∧ W.cell? ⟨g4, 2, none⟩ = some (.slice AP dP.length cP) ∧ W.cell? ⟨g4, 3, none⟩ = some (.slice AE dE.length cE) ∧ W.cell? ⟨g6, 0, none⟩ = some (.int .i64 dm) ∧ W.cell? ⟨g6, 1, none⟩ = some (.int .i64 dO) ∧ W.cell? ⟨g6, 2, none⟩ = some (.slice AP2 dP.length cP2) ∧ W.cell? ⟨g6, 3, none⟩ = some (.slice AE2 dE.length cE2) ∧ W.cell? ⟨w.heap.size + 1, 1, none⟩ = some (.int .i64 q2)) := ⟨fun W hW => by
    obtain ⟨_, h2, h3, h4, _⟩ := HF.out W hW
    exact ⟨blk_cell h3 0, blk_cell h3 1, blk_cell h3 2, blk_cell h3 3, blk_cell h4 0, blk_cell h4 1, blk_cell h4 2, blk_cell h4 3, blk_cell h2 1⟩⟩
  have HDA : Aside0 (∀ W, Calls Try.prog 21 #[.pointer none, .int .i64 block, .int .i64 order] W fun e w' => e = .returned (.tuple #[.slice none 0 0, .agg zRice, .int .i64 1]) ∧ Below W.heap.size W w') := ⟨fun W => Decode_arg block order (.pointer none) W (.inl rfl)⟩
  have hne : (er != er) = false := by simp
  have hbw : Below w6.heap.size w6 w6.drew := below_drew (Below.refl _ _)
  clear hC1 hC2 hC3 hC4 hC5 hC6 hc1 hc2 hc3 hc4 hc5 hc6 HL5 HL5' HP5 HP5' HE5 HE5' HR5 HX5 HB5 HC6 HB6 HW5
  cases her : er == 0 with
  | true =>
    have he0 : er = 0 := by simpa using her
    have hqq : q = q2 := by rw [HQ0.out he0, HQ1.out he0]
    have hqe : ((q : Int) != (q2 : Int)) = false := by simp [hqq]
    clear he0 hqq HQ0 HQ1
    go_wp2
    go_region_held3 (fun W => W.cell? ⟨g4, 0, none⟩ = some (.int .i64 dm) ∧ W.cell? ⟨g4, 1, none⟩ = some (.int .i64 dO) ∧ W.cell? ⟨g4, 2, none⟩ = some (.slice AP dP.length cP) ∧ W.cell? ⟨g4, 3, none⟩ = some (.slice AE dE.length cE) ∧ W.cell? ⟨g6, 0, none⟩ = some (.int .i64 dm) ∧ W.cell? ⟨g6, 1, none⟩ = some (.int .i64 dO) ∧ W.cell? ⟨g6, 2, none⟩ = some (.slice AP2 dP.length cP2) ∧ W.cell? ⟨g6, 3, none⟩ = some (.slice AE2 dE.length cE2) ∧ W.cell? ⟨w.heap.size + 1, 1, none⟩ = some (.int .i64 q2)) (first | exact HSK.out _ hbw)
      ((first | (go_at_call 23; (with_reducible refine (HIN.out _ hbw).mono ?_); rintro e w8 ⟨rfl, hn8⟩; have hbw2 := hbw.trans (hn8.below.mono hbw.size); clear hbw hn8; have hbw := hbw2; clear hbw2) | (go_at_call 24; (with_reducible refine (HSA.out _ hbw).mono ?_); rintro e w8 ⟨rfl, hn8⟩; have hbw2 := hbw.trans (hn8.mono hbw.size); clear hbw hn8; have hbw := hbw2; clear hbw2) | (go_at_call 25; (with_reducible refine (HAT.out _ hbw).mono ?_); rintro e w8 ⟨rfl, hn8⟩; have hbw2 := hbw.trans (hn8.below.mono hbw.size); clear hbw hn8; have hbw := hbw2; clear hbw2)))
    all_goals
      have HBW := Aside0.mk hbw
      clear hbw
      go_wp2_with fail
      with_reducible refine (HDA.out _).mono ?_
      rintro e w9 ⟨rfl, hb9⟩
      have HB9 := Aside0.mk (HBW.out.trans (hb9.mono HBW.out.size))
      have HN := Aside0.mk (blk_new w9 (.cells zRice 24 (0, 0)))
      have hbN := below_setRow (below_alloc (Below.refl w9.heap.size w9) (.cells zRice 24 (0, 0))) (Nat.le_refl _) zRice
      have HB10 := Aside0.mk (HB9.out.trans (hbN.mono HB9.out.size))
      clear hb9 hbN HBW HB9
      go_upto_region 9 with ((with_reducible refine wpList_store_row ?_ 24 (.tmp 16) (.tmp 74) ?_ (w9.heap.size) (zRice) ?_ ?_ 24 (zRice) (HN.out) (rc_info _ _ _ _) ?_ (rc_one _ _ _ _ _ _ _ _) ?_); rfl; rfl; rfl; rfl; rfl)
      generalize (w9.alloc (.cells zRice 24 (0, 0))).setRow w9.heap.size zRice = w10 at HB10 ⊢
      clear HN
      go_wp2_with fail
      with_reducible refine (awake_any _).mono ?_
      rintro e w11 ⟨rfl, hb11⟩
      have HB11 := Aside0.mk (HB10.out.trans (hb11.mono HB10.out.size))
      clear hb11
      go_wp2
      go_ret
      exact ⟨rfl, (HF.out _ HB11.out).2.2.2.2.2.2.2.2.2.2⟩
  | false =>
    clear HQ0 HQ1
    go_wp2
    refine start_ (n := 28) (S := fun w' => w'.cell? ⟨g4, 0, none⟩ = some (.int .i64 dm) ∧ w'.cell? ⟨g4, 1, none⟩ = some (.int .i64 dO) ∧ w'.cell? ⟨g4, 2, none⟩ = some (.slice AP dP.length cP) ∧ w'.cell? ⟨g4, 3, none⟩ = some (.slice AE dE.length cE) ∧ w'.cell? ⟨g6, 0, none⟩ = some (.int .i64 dm) ∧ w'.cell? ⟨g6, 1, none⟩ = some (.int .i64 dO) ∧ w'.cell? ⟨g6, 2, none⟩ = some (.slice AP2 dP.length cP2) ∧ w'.cell? ⟨g6, 3, none⟩ = some (.slice AE2 dE.length cE2) ∧ w'.cell? ⟨w.heap.size + 1, 1, none⟩ = some (.int .i64 q2)) (ds := []) #[false, false, false, false, false, false, false, false, false, false, false, false, false, false, false, false, false, false, false, false, false, false, false, false, false, false, false, false] (by kernel_rfl) rfl rfl ⟨(HSK.out _ hbw).1, (HSK.out _ hbw).2.1, (HSK.out _ hbw).2.2.1, (HSK.out _ hbw).2.2.2.1, (HSK.out _ hbw).2.2.2.2.1, (HSK.out _ hbw).2.2.2.2.2.1, (HSK.out _ hbw).2.2.2.2.2.2.1, (HSK.out _ hbw).2.2.2.2.2.2.2.1, (HSK.out _ hbw).2.2.2.2.2.2.2.2⟩ (fun hHeld => ?_)
    refine pure_ (i := 0) (N := some 41) (v := ?_) (a' := ?_) #[true, false, false, false, false, false, false, false, false, false, false, false, false, false, false, false, false, false, false, false, false, false, false, false, false, false, false, false] rfl rfl (by kernel_rfl) (fun _ _ _ h => h) (Or.inl ⟨by rfl, ?_⟩) ?_ ?_
    rotate_left
    · intro w'
      go_simp
      with_reducible rfl
    rotate_left
    · simp only [Act.put, List.setIfInBounds_toArray, List.set_cons_zero, List.set_cons_succ, i64_w, i32_w]
      rfl
    refine pure_ (i := 1) (N := some 42) (v := ?_) (a' := ?_) #[true, true, false, false, false, false, false, false, false, false, false, false, false, false, false, false, false, false, false, false, false, false, false, false, false, false, false, false] rfl rfl (by kernel_rfl) (fun _ _ _ h => h) (Or.inl ⟨by rfl, ?_⟩) ?_ ?_
    rotate_left
    · intro w'
      go_simp
      with_reducible rfl
    rotate_left
    · simp only [Act.put, List.setIfInBounds_toArray, List.set_cons_zero, List.set_cons_succ, i64_w, i32_w]
      rfl
    refine one_ (i := 2) (N := some 43) #[true, true, true, false, false, false, false, false, false, false, false, false, false, false, false, false, false, false, false, false, false, false, false, false, false, false, false, false] rfl rfl (by kernel_rfl) (by decide) (fun K hK => ?_)
    refine goes_ Try.func23 (by kernel_rfl) rfl #[.slice A1 dl.length c1, .slice A2 dl.length c2] (by rfl) rfl rfl (by simp only [List.map_toArray, List.map_cons, List.map_nil]; rfl) ?_
    with_reducible refine (HIN.out _ hbw).mono ?_
    rintro e w8 ⟨rfl, hn8⟩
    refine ⟨_, rfl, ?_⟩
    have hbw2 := hbw.trans (hn8.below.mono hbw.size)
    clear hbw hn8
    have hbw := hbw2
    clear hbw2
    refine hK.out _ _ ⟨(HSK.out _ hbw).1, (HSK.out _ hbw).2.1, (HSK.out _ hbw).2.2.1, (HSK.out _ hbw).2.2.2.1, (HSK.out _ hbw).2.2.2.2.1, (HSK.out _ hbw).2.2.2.2.2.1, (HSK.out _ hbw).2.2.2.2.2.2.1, (HSK.out _ hbw).2.2.2.2.2.2.2.1, (HSK.out _ hbw).2.2.2.2.2.2.2.2⟩ (fun hHeld => ?_)
    clear hK K
    refine norm_ (a' := ?_) ?_ ?_
    rotate_left
    · show Act.put _ (some 43) _ = _
      simp only [Act.put, List.setIfInBounds_toArray, List.set_cons_zero, List.set_cons_succ, i64_w, i32_w]
      rfl
    refine pure_ (i := 3) (N := some 44) (v := ?_) (a' := ?_) #[true, true, true, true, false, false, false, false, false, false, false, false, false, false, false, false, false, false, false, false, false, false, false, false, false, false, false, false] rfl rfl (by kernel_rfl) (fun _ _ _ h => h) (Or.inl ⟨by rfl, ?_⟩) ?_ ?_
    rotate_left
    · intro w'
      go_simp
      with_reducible rfl
    rotate_left
    · simp only [Act.put, List.setIfInBounds_toArray, List.set_cons_zero, List.set_cons_succ, i64_w, i32_w]
      rfl
    refine pure_ (i := 4) (N := some 45) (v := ?_) (a' := ?_) #[true, true, true, true, true, false, false, false, false, false, false, false, false, false, false, false, false, false, false, false, false, false, false, false, false, false, false, false] rfl rfl (by kernel_rfl) (fun _ _ _ h => h) (Or.inl ⟨by rfl, ?_⟩) ?_ ?_
    rotate_left
    · intro w'
      go_simp
      with_reducible rfl
    rotate_left
    · simp only [Act.put, List.setIfInBounds_toArray, List.set_cons_zero, List.set_cons_succ, i64_w, i32_w]
      rfl
    refine take_ (i := 5) (N := some 46) (v := ?_) (a' := ?_) #[true, true, true, true, true, true, false, false, false, false, false, false, false, false, false, false, false, false, false, false, false, false, false, false, false, false, false, false] rfl rfl (by kernel_rfl) (fun _ _ _ h => h) (Or.inl ⟨by rfl, ?_⟩) hHeld ?_ ?_
    rotate_left
    · rintro w' ⟨s0, s1, s2, s3, s4, s5, s6, s7, s8⟩
      go_simp
      with_reducible rfl
    rotate_left
    · simp only [Act.put, List.setIfInBounds_toArray, List.set_cons_zero, List.set_cons_succ, i64_w, i32_w]
      rfl
    refine take_ (i := 6) (N := some 47) (v := ?_) (a' := ?_) #[true, true, true, true, true, true, true, false, false, false, false, false, false, false, false, false, false, false, false, false, false, false, false, false, false, false, false, false] rfl rfl (by kernel_rfl) (fun _ _ _ h => h) (Or.inl ⟨by rfl, ?_⟩) hHeld ?_ ?_
    rotate_left
    · rintro w' ⟨s0, s1, s2, s3, s4, s5, s6, s7, s8⟩
      go_simp
      with_reducible rfl
    rotate_left
    · simp only [Act.put, List.setIfInBounds_toArray, List.set_cons_zero, List.set_cons_succ, i64_w, i32_w]
      rfl
    refine one_ (i := 7) (N := some 48) #[true, true, true, true, true, true, true, true, false, false, false, false, false, false, false, false, false, false, false, false, false, false, false, false, false, false, false, false] rfl rfl (by kernel_rfl) (by decide) (fun K hK => ?_)
    refine goes_ Try.func24 (by kernel_rfl) rfl #[.agg #[.int .i64 dm, .int .i64 dO, .slice AP dP.length cP, .slice AE dE.length cE], .agg #[.int .i64 dm, .int .i64 dO, .slice AP2 dP.length cP2, .slice AE2 dE.length cE2]] (by rfl) rfl rfl (by simp only [List.map_toArray, List.map_cons, List.map_nil]; rfl) ?_
    with_reducible refine (HSA.out _ hbw).mono ?_
    rintro e w8 ⟨rfl, hn8⟩
    refine ⟨_, rfl, ?_⟩
    have hbw2 := hbw.trans (hn8.mono hbw.size)
    clear hbw hn8
    have hbw := hbw2
    clear hbw2
    refine hK.out _ _ ⟨(HSK.out _ hbw).1, (HSK.out _ hbw).2.1, (HSK.out _ hbw).2.2.1, (HSK.out _ hbw).2.2.2.1, (HSK.out _ hbw).2.2.2.2.1, (HSK.out _ hbw).2.2.2.2.2.1, (HSK.out _ hbw).2.2.2.2.2.2.1, (HSK.out _ hbw).2.2.2.2.2.2.2.1, (HSK.out _ hbw).2.2.2.2.2.2.2.2⟩ (fun hHeld => ?_)
    clear hK K
    refine norm_ (a' := ?_) ?_ ?_
    rotate_left
    · show Act.put _ (some 48) _ = _
      simp only [Act.put, List.setIfInBounds_toArray, List.set_cons_zero, List.set_cons_succ, i64_w, i32_w]
      rfl
    refine pure_ (i := 8) (N := some 49) (v := ?_) (a' := ?_) #[true, true, true, true, true, true, true, true, true, false, false, false, false, false, false, false, false, false, false, false, false, false, false, false, false, false, false, false] rfl rfl (by kernel_rfl) (fun _ _ _ h => h) (Or.inl ⟨by rfl, ?_⟩) ?_ ?_
    rotate_left
    · intro w'
      go_simp
      with_reducible rfl
    rotate_left
    · simp only [Act.put, List.setIfInBounds_toArray, List.set_cons_zero, List.set_cons_succ, i64_w, i32_w]
      rfl
    refine pure_ (i := 9) (N := some 50) (v := ?_) (a' := ?_) #[true, true, true, true, true, true, true, true, true, true, false, false, false, false, false, false, false, false, false, false, false, false, false, false, false, false, false, false] rfl rfl (by kernel_rfl) (fun _ _ _ h => h) (Or.inl ⟨by rfl, ?_⟩) ?_ ?_
    rotate_left
    · intro w'
      go_simp
      with_reducible rfl
    rotate_left
    · simp only [Act.put, List.setIfInBounds_toArray, List.set_cons_zero, List.set_cons_succ, i64_w, i32_w]
      rfl
    refine pure_ (i := 10) (N := some 51) (v := ?_) (a' := ?_) #[true, true, true, true, true, true, true, true, true, true, true, false, false, false, false, false, false, false, false, false, false, false, false, false, false, false, false, false] rfl rfl (by kernel_rfl) (fun _ _ _ h => h) (Or.inl ⟨by rfl, ?_⟩) ?_ ?_
    rotate_left
    · intro w'
      go_simp
      with_reducible rfl
    rotate_left
    · simp only [Act.put, List.setIfInBounds_toArray, List.set_cons_zero, List.set_cons_succ, i64_w, i32_w]
      rfl
    refine pure_ (i := 11) (N := some 52) (v := ?_) (a' := ?_) #[true, true, true, true, true, true, true, true, true, true, true, true, false, false, false, false, false, false, false, false, false, false, false, false, false, false, false, false] rfl rfl (by kernel_rfl) (fun _ _ _ h => h) (Or.inl ⟨by rfl, ?_⟩) ?_ ?_
    rotate_left
    · intro w'
      go_simp
      with_reducible rfl
    rotate_left
    · simp only [Act.put, List.setIfInBounds_toArray, List.set_cons_zero, List.set_cons_succ, i64_w, i32_w]
      rfl
    refine pure_ (i := 12) (N := some 53) (v := ?_) (a' := ?_) #[true, true, true, true, true, true, true, true, true, true, true, true, true, false, false, false, false, false, false, false, false, false, false, false, false, false, false, false] rfl rfl (by kernel_rfl) (fun _ _ _ h => h) (Or.inl ⟨by rfl, ?_⟩) ?_ ?_
    rotate_left
    · intro w'
      go_simp
      with_reducible rfl
    rotate_left
    · simp only [Act.put, List.setIfInBounds_toArray, List.set_cons_zero, List.set_cons_succ, i64_w, i32_w]
      rfl
    refine pure_ (i := 13) (N := some 54) (v := ?_) (a' := ?_) #[true, true, true, true, true, true, true, true, true, true, true, true, true, true, false, false, false, false, false, false, false, false, false, false, false, false, false, false] rfl rfl (by kernel_rfl) (fun _ _ _ h => h) (Or.inl ⟨by rfl, ?_⟩) ?_ ?_
    rotate_left
    · intro w'
      go_simp
      with_reducible rfl
    rotate_left
    · simp only [Act.put, List.setIfInBounds_toArray, List.set_cons_zero, List.set_cons_succ, i64_w, i32_w]
      rfl
    refine pure_ (i := 14) (N := some 55) (v := ?_) (a' := ?_) #[true, true, true, true, true, true, true, true, true, true, true, true, true, true, true, false, false, false, false, false, false, false, false, false, false, false, false, false] rfl rfl (by kernel_rfl) (fun _ _ _ h => h) (Or.inl ⟨by rfl, ?_⟩) ?_ ?_
    rotate_left
    · intro w'
      go_simp
      with_reducible rfl
    rotate_left
    · simp only [Act.put, List.setIfInBounds_toArray, List.set_cons_zero, List.set_cons_succ, i64_w, i32_w]
      rfl
    refine pure_ (i := 15) (N := some 56) (v := ?_) (a' := ?_) #[true, true, true, true, true, true, true, true, true, true, true, true, true, true, true, true, false, false, false, false, false, false, false, false, false, false, false, false] rfl rfl (by kernel_rfl) (fun _ _ _ h => h) (Or.inl ⟨by rfl, ?_⟩) ?_ ?_
    rotate_left
    · intro w'
      go_simp
      with_reducible rfl
    rotate_left
    · simp only [Act.put, List.setIfInBounds_toArray, List.set_cons_zero, List.set_cons_succ, i64_w, i32_w]
      rfl
    refine pure_ (i := 16) (N := some 57) (v := ?_) (a' := ?_) #[true, true, true, true, true, true, true, true, true, true, true, true, true, true, true, true, true, false, false, false, false, false, false, false, false, false, false, false] rfl rfl (by kernel_rfl) (fun _ _ _ h => h) (Or.inl ⟨by rfl, ?_⟩) ?_ ?_
    rotate_left
    · intro w'
      go_simp
      with_reducible rfl
    rotate_left
    · simp only [Act.put, List.setIfInBounds_toArray, List.set_cons_zero, List.set_cons_succ, i64_w, i32_w]
      rfl
    refine pure_ (i := 17) (N := some 58) (v := ?_) (a' := ?_) #[true, true, true, true, true, true, true, true, true, true, true, true, true, true, true, true, true, true, false, false, false, false, false, false, false, false, false, false] rfl rfl (by kernel_rfl) (fun _ _ _ h => h) (Or.inl ⟨by rfl, ?_⟩) ?_ ?_
    rotate_left
    · intro w'
      go_simp
      with_reducible rfl
    rotate_left
    · simp only [Act.put, List.setIfInBounds_toArray, List.set_cons_zero, List.set_cons_succ, i64_w, i32_w]
      rfl
    refine pure_ (i := 18) (N := some 59) (v := ?_) (a' := ?_) #[true, true, true, true, true, true, true, true, true, true, true, true, true, true, true, true, true, true, true, false, false, false, false, false, false, false, false, false] rfl rfl (by kernel_rfl) (fun _ _ _ h => h) (Or.inl ⟨by rfl, ?_⟩) ?_ ?_
    rotate_left
    · intro w'
      go_simp
      with_reducible rfl
    rotate_left
    · simp only [Act.put, List.setIfInBounds_toArray, List.set_cons_zero, List.set_cons_succ, i64_w, i32_w]
      rfl
    refine pure_ (i := 19) (N := some 60) (v := undef) (a' := ?_) #[true, true, true, true, true, true, true, true, true, true, true, true, true, true, true, true, true, true, true, true, false, false, false, false, false, false, false, false] rfl rfl (by kernel_rfl) (fun _ _ _ h => h) (Or.inr ⟨by rfl, rfl⟩) ?_ ?_
    rotate_left
    · simp only [Act.put, List.setIfInBounds_toArray, List.set_cons_zero, List.set_cons_succ, i64_w, i32_w]
      rfl
    refine pure_ (i := 20) (N := some 61) (v := undef) (a' := ?_) #[true, true, true, true, true, true, true, true, true, true, true, true, true, true, true, true, true, true, true, true, true, false, false, false, false, false, false, false] rfl rfl (by kernel_rfl) (fun _ _ _ h => h) (Or.inr ⟨by rfl, rfl⟩) ?_ ?_
    rotate_left
    · simp only [Act.put, List.setIfInBounds_toArray, List.set_cons_zero, List.set_cons_succ, i64_w, i32_w]
      rfl
    refine pure_ (i := 21) (N := some 62) (v := undef) (a' := ?_) #[true, true, true, true, true, true, true, true, true, true, true, true, true, true, true, true, true, true, true, true, true, true, false, false, false, false, false, false] rfl rfl (by kernel_rfl) (fun _ _ _ h => h) (Or.inr ⟨by rfl, rfl⟩) ?_ ?_
    rotate_left
    · simp only [Act.put, List.setIfInBounds_toArray, List.set_cons_zero, List.set_cons_succ, i64_w, i32_w]
      rfl
    refine pure_ (i := 22) (N := some 63) (v := undef) (a' := ?_) #[true, true, true, true, true, true, true, true, true, true, true, true, true, true, true, true, true, true, true, true, true, true, true, false, false, false, false, false] rfl rfl (by kernel_rfl) (fun _ _ _ h => h) (Or.inr ⟨by rfl, rfl⟩) ?_ ?_
    rotate_left
    · simp only [Act.put, List.setIfInBounds_toArray, List.set_cons_zero, List.set_cons_succ, i64_w, i32_w]
      rfl
    refine pure_ (i := 23) (N := some 64) (v := undef) (a' := ?_) #[true, true, true, true, true, true, true, true, true, true, true, true, true, true, true, true, true, true, true, true, true, true, true, true, false, false, false, false] rfl rfl (by kernel_rfl) (fun _ _ _ h => h) (Or.inr ⟨by rfl, rfl⟩) ?_ ?_
    rotate_left
    · simp only [Act.put, List.setIfInBounds_toArray, List.set_cons_zero, List.set_cons_succ, i64_w, i32_w]
      rfl
    refine pure_ (i := 24) (N := some 65) (v := undef) (a' := ?_) #[true, true, true, true, true, true, true, true, true, true, true, true, true, true, true, true, true, true, true, true, true, true, true, true, true, false, false, false] rfl rfl (by kernel_rfl) (fun _ _ _ h => h) (Or.inr ⟨by rfl, rfl⟩) ?_ ?_
    rotate_left
    · simp only [Act.put, List.setIfInBounds_toArray, List.set_cons_zero, List.set_cons_succ, i64_w, i32_w]
      rfl
    refine pure_ (i := 25) (N := some 66) (v := undef) (a' := ?_) #[true, true, true, true, true, true, true, true, true, true, true, true, true, true, true, true, true, true, true, true, true, true, true, true, true, true, false, false] rfl rfl (by kernel_rfl) (fun _ _ _ h => h) (Or.inr ⟨by rfl, rfl⟩) ?_ ?_
    rotate_left
    · simp only [Act.put, List.setIfInBounds_toArray, List.set_cons_zero, List.set_cons_succ, i64_w, i32_w]
      rfl
    refine pure_ (i := 26) (N := some 67) (v := ?_) (a' := ?_) #[true, true, true, true, true, true, true, true, true, true, true, true, true, true, true, true, true, true, true, true, true, true, true, true, true, true, true, false] rfl rfl (by kernel_rfl) (fun _ _ _ h => h) (Or.inl ⟨by rfl, ?_⟩) ?_ ?_
    rotate_left
    · intro w'
      go_simp
      with_reducible rfl
    rotate_left
    · simp only [Act.put, List.setIfInBounds_toArray, List.set_cons_zero, List.set_cons_succ, i64_w, i32_w]
      rfl
    refine pure_ (i := 27) (N := some 68) (v := ?_) (a' := ?_) #[true, true, true, true, true, true, true, true, true, true, true, true, true, true, true, true, true, true, true, true, true, true, true, true, true, true, true, true] rfl rfl (by kernel_rfl) (fun _ _ _ h => h) (Or.inl ⟨by rfl, ?_⟩) ?_ ?_
    rotate_left
    · intro w'
      go_simp
      with_reducible rfl
    rotate_left
    · simp only [Act.put, List.setIfInBounds_toArray, List.set_cons_zero, List.set_cons_succ, i64_w, i32_w]
      rfl
    refine done_ (by kernel_rfl) ?_
    have HBW := Aside0.mk hbw
    clear hbw
    go_wp2_with fail
    with_reducible refine (HDA.out _).mono ?_
    rintro e w9 ⟨rfl, hb9⟩
    have HB9 := Aside0.mk (HBW.out.trans (hb9.mono HBW.out.size))
    have HN := Aside0.mk (blk_new w9 (.cells zRice 24 (0, 0)))
    have hbN := below_setRow (below_alloc (Below.refl w9.heap.size w9) (.cells zRice 24 (0, 0))) (Nat.le_refl _) zRice
    have HB10 := Aside0.mk (HB9.out.trans (hbN.mono HB9.out.size))
    clear hb9 hbN HBW HB9
    go_upto_region 9 with ((with_reducible refine wpList_store_row ?_ 24 (.tmp 16) (.tmp 74) ?_ (w9.heap.size) (zRice) ?_ ?_ 24 (zRice) (HN.out) (rc_info _ _ _ _) ?_ (rc_one _ _ _ _ _ _ _ _) ?_); rfl; rfl; rfl; rfl; rfl)
    generalize (w9.alloc (.cells zRice 24 (0, 0))).setRow w9.heap.size zRice = w10 at HB10 ⊢
    clear HN
    go_wp2_with fail
    with_reducible refine (awake_any _).mono ?_
    rintro e w11 ⟨rfl, hb11⟩
    have HB11 := Aside0.mk (HB10.out.trans (hb11.mono HB10.out.size))
    clear hb11
    go_wp2
    go_ret
    exact ⟨rfl, (HF.out _ HB11.out).2.2.2.2.2.2.2.2.2.2⟩
end Go.Proofs.Ytfhekkoibmlmpaa.Hand
