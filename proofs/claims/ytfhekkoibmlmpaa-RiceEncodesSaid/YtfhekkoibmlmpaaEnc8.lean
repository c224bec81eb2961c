/- Texts of this claim's proof, laid behind each other by a program of ours, without what the proof does not reach: Contracts of layer 8, proved by hand: the reference's Encode; where it is refused ahead; its words; Contracts of layer 8, proved by hand: awake; Contracts of layer 8, proved by hand: the reference's Best, its words; Contracts of layer 8, proved by hand: RiceBest; Contracts of layer 8, proved by hand: the reference's Encode (method 0); Contracts of layer 8, proved by hand: the reference's Encode (method 1); Contracts of layer 8, proved by hand: the reference's Encode, whole; Contracts of layer 8, proved by hand: RiceBack; Contracts of layer 8, proved by hand: RiceEncodes -/
import Derived.Laws.StructEq
import Derived.Test.YtfhekkoibmlmpaaEnc1
import Derived.Test.YtfhekkoibmlmpaaEnc2
import Derived.Test.YtfhekkoibmlmpaaEnc3
import Derived.Test.YtfhekkoibmlmpaaEnc4
import Derived.Test.YtfhekkoibmlmpaaEnc5
import Derived.Test.YtfhekkoibmlmpaaEnc6
import Derived.Test.YtfhekkoibmlmpaaEnc7
import Derived.Test.YtfhekkoibmlmpaaEncWApart
import Derived.Test.YtfhekkoibmlmpaaEncWFoot
import Derived.Test.YtfhekkoibmlmpaaEncWGuard
import Derived.Test.YtfhekkoibmlmpaaEncWInv
import Derived.Test.YtfhekkoibmlmpaaEncWKept
import Derived.Test.YtfhekkoibmlmpaaEncWLast
import Derived.Test.YtfhekkoibmlmpaaEncWMore
import Derived.Test.YtfhekkoibmlmpaaEncWN
import Derived.Test.YtfhekkoibmlmpaaEncWRepsOne
import Derived.Test.YtfhekkoibmlmpaaEncWShare
import Derived.Test.YtfhekkoibmlmpaaEncWTab
import Derived.Test.YtfhekkoibmlmpaaEncWWords
/- Contracts of layer 8, proved by hand: the reference's Encode; where it is refused ahead; its words. -/
namespace Go.Proofs.Ytfhekkoibmlmpaa.Hand
open Go.RowKit Go.Proofs.Ytfhekkoibmlmpaa.Q Go.Proofs.YtfhekkoibmlmpaaW.PrintWords Go.Proofs.YtfhekkoibmlmpaaW.PrintLast Go.Proofs.YtfhekkoibmlmpaaW.PrintMore
set_option linter.unusedVariables false
set_option linter.unusedSimpArgs false

set_option maxHeartbeats 16000000 in
set_option maxRecDepth 100000 in
theorem REncode_no (m o : Int) (AP AE A : Option Addr) (cP cE c : Nat) (ps es l : List Int) (block order : Int) (g : Nat) (w : World) (hP : Kd.C (Kd.int .i64) w AP ps.length ps) (hcP : ps.length ≤ cP) (hE : Kd.C (Kd.int .i64) w AE es.length es) (hcE : es.length ≤ cE)
    (h : ¬ checkP m o ps es block order ∨ ((l.length : Int) ≠ block - order ∧ checkP m o ps es block order)) :
    Calls Try.prog 14 #[.pointer (some ⟨g, 0, none⟩), .agg #[.int .i64 m, .int .i64 o, .slice AP ps.length cP, .slice AE es.length cE], .int .i64 block, .int .i64 order, .slice A l.length c] w fun e w' => e = .returned (.int .i64 60) ∧ Below w.heap.size w w' := by
  have hup := Try.underlying30
  obtain ⟨kk, hk⟩ := (xcheck_ev m o ps es block order).rounds
  have hb1 : Below w.heap.size w (w.alloc (.cells #[.int .i64 m, .int .i64 o, .slice AP ps.length cP, .slice AE es.length cE] 24)) := below_alloc (Below.refl _ _) _
  have HK : Aside0 (∀ W, Below w.heap.size w W → Calls Try.prog 19 #[.agg #[.int .i64 m, .int .i64 o, .slice AP ps.length cP, .slice AE es.length cE], .int .i64 block, .int .i64 order] W fun e w' => e = .returned (.int .i64 (if checkP m o ps es block order then 0 else 60)) ∧ Below W.heap.size W w') :=
    ⟨fun W hW => lacquerref08_Check.calls kk m o AP cP ps AE cE es block order _ W (Kd.C_below hP hW) hcP (Kd.C_below hE hW) hcE hk⟩
  have HB1 := Aside0.mk hb1
  clear hk hb1 hP hE
  rcases h with h | ⟨h1, h⟩
  · rw [if_neg h] at HK
    clear h
    go_enter Try.func14, Try.ntmps14
    go_wp2_with fail
    with_reducible refine (HK.out _ HB1.out).mono ?_
    rintro e w2 ⟨rfl, hB⟩
    have HB2 := Aside0.mk (HB1.out.trans (hB.mono HB1.out.size))
    clear hB HB1 HK
    go_wp2
    go_ret
    exact ⟨rfl, HB2.out⟩
  · rw [if_pos h] at HK
    obtain ⟨b0, b1, d0, d1⟩ : 1 ≤ block ∧ block ≤ 65535 ∧ 0 ≤ order ∧ order ≤ 32 := ⟨h.1.2.2.2.1, h.1.2.2.2.2.1, h.1.2.2.2.2.2.1, h.1.2.2.2.2.2.2.1⟩
    have hne : (((l.length : Int)) != block - order) = true := bne_iff_ne.mpr h1
    clear h h1
    go_enter Try.func14, Try.ntmps14
    go_wp2_with fail
    with_reducible refine (HK.out _ HB1.out).mono ?_
    rintro e w2 ⟨rfl, hB⟩
    have HB2 := Aside0.mk (HB1.out.trans (hB.mono HB1.out.size))
    clear hB HB1 HK
    go_wp2
    go_ret
    exact ⟨rfl, HB2.out⟩
section
variable {ops : Array Oper} {o : Oper} {a : Act} {Q : Exit → Act → World → Prop} {Kc : Act → World → Prop} {rest : List Oper}
theorem app_bytelist_step {W : World} {C : Nat} (s x : Operand) {v : Value} {xs ys : List Int} {A : Option Addr} {c : Nat} (hw : Region.wanted o (yielded ops a.tmps) = true)
    (ho : o.op = .call { callee := .builtin .append, args := #[s, x], argTypes := #[31, 31] }) (hs : a.eval s = v) (hx : a.eval x = .slice A ys.length c)
    (HO : BytesAt W C v xs) (HC : Kd.C (Kd.int .u8) W A ys.length ys) (hC : C ≤ W.heap.size) (hl : xs.length + ys.length ≤ 1200000000000)
    (h : ∀ v1 w1, BytesAt w1 C v1 (xs ++ ys) → Below C W w1 → W.grownBy w1 v.ownBlock → (v1.ownBlock = v.ownBlock ∨ ∃ k, v1.ownBlock = some k ∧ W.heap.size ≤ k) → Kc (a.put o.dst v1) w1) :
    if Region.wanted o (yielded ops a.tmps) = true then Oper.wp Try.prog o a W Kc Q else Kc (a.put o.dst undef) W :=
  Kd.R_append_rows_step (Kd.int .u8) (w0 := W) C hw s x 31 5 (.int .u8 0) 1 ho Try.underlying31 infoB rfl (by decide) (by decide) v xs ys A ys.length c (fun _ => True) (fun _ => False) hs hx
    HO.all HC (fun _ _ hx => hx) (fun _ hk => hk.elim) (fun _ _ => trivial) (Below.refl _ _) hC (by omega) (fun v1 w1 h1 h2 h3 h4 => h v1 w1 (.of h1) h2 h3 h4)
end
theorem C_cell {w : World} {A : Option Addr} {xs : List Int} (h : Kd.C (Kd.int .i64) w A xs.length xs) (i : Nat) (hi : i < xs.length) : ∃ ad, A = some ad ∧ w.cell? (ad.add i) = some (.int .i64 (rd xs (i : Int))) := by
  have hr : ReadsInt w .i64 A xs.length xs := Kd.reads_of_C (d := (0 : Int)) (enc := Value.int .i64) h
  obtain ⟨ad, e, hx⟩ := hr.at_ (i : Int) (by omega) (by omega)
  rw [Int.toNat_natCast] at hx
  exact ⟨ad, e, hx⟩
theorem ones_append (a b : List Bool) : ones (a ++ b) = ones a ++ ones b := by simp [ones]
/-- The number 1, shifted by a letter: all its forms. -/
structure Shl1 (oI : Int) (N : Nat) : Prop where
  j9 : IntKind.i64.wrap (1 * 2 ^ min oI.toNat 64) = (N : Int)
  j0 : IntKind.i64.wrap (1 * 2 ^ oI.toNat) = (N : Int)
  j1 : IntKind.i64.wrap (2 ^ min oI.toNat 64) = (N : Int)
  j2 : IntKind.i64.wrap (2 ^ oI.toNat) = (N : Int)
  j3 : wrap64 (1 * 2 ^ min oI.toNat 64) = (N : Int)
  j4 : wrap64 (2 ^ min oI.toNat 64) = (N : Int)
  u : IntKind.u64.wrap oI = oI
theorem shl1 (O N : Nat) (hO : O ≤ 15) (hN : 2 ^ O = N) : Shl1 (O : Int) N := by
  have h2 : 2 ^ O ≤ 2 ^ 15 := Nat.pow_le_pow_right (by decide) hO
  have e15 : (2 : Nat) ^ 15 = 32768 := by decide
  have hsl : (1 : Int) * 2 ^ min ((O : Int)).toNat 64 = (N : Int) := by
    rw [Int.toNat_natCast, Nat.min_eq_left (by omega), Int.one_mul, ← hN]
    simp
  have hmin : min ((O : Int)).toNat 64 = ((O : Int)).toNat := Nat.min_eq_left (by omega)
  have hj9 : IntKind.i64.wrap (1 * 2 ^ min ((O : Int)).toNat 64) = (N : Int) := by rw [hsl, IntKind.wrap_i64]; omega
  have hj0 : IntKind.i64.wrap (1 * 2 ^ ((O : Int)).toNat) = (N : Int) := by rw [hmin] at hj9; exact hj9
  have hj1 : IntKind.i64.wrap (2 ^ min ((O : Int)).toNat 64) = (N : Int) := by rw [Int.one_mul] at hj9; exact hj9
  have hj2 : IntKind.i64.wrap (2 ^ ((O : Int)).toNat) = (N : Int) := by rw [Int.one_mul] at hj0; exact hj0
  have hj3 : wrap64 (1 * 2 ^ min ((O : Int)).toNat 64) = (N : Int) := by rw [hsl]; unfold wrap64; omega
  have hj4 : wrap64 (2 ^ min ((O : Int)).toNat 64) = (N : Int) := by rw [Int.one_mul] at hj3; exact hj3
  exact ⟨hj9, hj0, hj1, hj2, hj3, hj4, by rw [u64_wrap]; omega⟩
end Go.Proofs.Ytfhekkoibmlmpaa.Hand

/- Contracts of layer 8, proved by hand: awake. -/
namespace Go.Proofs.Ytfhekkoibmlmpaa.Hand
open Go.RowKit Go.Proofs.Ytfhekkoibmlmpaa.Q Go.Proofs.YtfhekkoibmlmpaaW.PrintWords Go.Proofs.YtfhekkoibmlmpaaW.PrintLast Go.Proofs.YtfhekkoibmlmpaaW.PrintMore
set_option linter.unusedVariables false
set_option linter.unusedSimpArgs false

/-- A literal list. -/
theorem lit4 {w : World} {g : Nat} (h : w.heap[g]? = some (.cells #[.int .i64 0, .int .i64 (-1), .int .i64 1, .int .i64 2] 3 (0, 0))) : Kd.C (Kd.int .i64) w (some ⟨g, 0, none⟩) ([0, -1, 1, 2] : List Int).length [0, -1, 1, 2] := by
  refine Kd.C_of_reads (d := (0 : Int)) (enc := Value.int .i64) ⟨rfl, by simp, fun _ => ⟨_, rfl, fun j hj => ?_⟩⟩
  rw [add_plain]
  have hc := blk_cell h j
  rw [hc]
  match j, hj with
  | 0, _ => rfl
  | 1, _ => rfl
  | 2, _ => rfl
  | 3, _ => rfl
theorem best4 : bestF 4 0 [0, -1, 1, 2] = (0, [0], [-1], 21) := by decide +kernel
theorem can4 : canE 0 0 [0] [-1] 4 0 [0, -1, 1, 2] := by decide +kernel
theorem len4 : (bitsE 0 0 [0] [-1] 4 0 [0, -1, 1, 2]).length = 21 := by decide +kernel
theorem dec4 : decF (strOfNums (pack (bitsE 0 0 [0] [-1] 4 0 [0, -1, 1, 2]))) 0 4 0 = (0, 0, [0, -1, 1, 2], [0], [-1], 0, 21) := by
  have h := dec_back (A := []) (R := []) 0 0 4 0 [0] [-1] [0, -1, 1, 2] (text_holds (bitsE 0 0 [0] [-1] 4 0 [0, -1, 1, 2])) (by simp) can4
  rw [len4] at h
  exact h
theorem cost41 : costF [0, -1, 1, 2] 1 = 11 := by decide +kernel
theorem cost4n : costF [0, -1, 1, 2] 31 = -1 := by decide +kernel
theorem span4 : ∀ x ∈ ([0, -1, 1, 2] : List Int), -9223372036854775808 ≤ x ∧ x ≤ 9223372036854775807 := by decide
theorem Cost_any (l : List Int) (k : Int) (A : Option Addr) (c : Nat) (w : World) (hl : l.length ≤ 65535) (hin : ∀ x ∈ l, -9223372036854775808 ≤ x ∧ x ≤ 9223372036854775807) (hA : Kd.C (Kd.int .i64) w A l.length l) (hc : l.length ≤ c) :
    Calls Try.prog 28 #[.slice A l.length c, .int .i64 k] w fun e w' => e = .returned (.int .i64 (costF l k)) ∧ Drawn0 w w' := by
  obtain ⟨n, h⟩ := (cost_ev l k hl hin).rounds
  exact rice_Cost.calls n A c l k _ w hA hc h
theorem pack_size (bs : List Bool) : (strOfNums (pack bs)).size = (bs.length + 7) / 8 := by rw [size_nums, pack_length]
set_option maxHeartbeats 16000000 in
set_option maxRecDepth 100000 in
theorem awake_any (w : World) : Calls Try.prog 9 #[] w fun e w' => e = .returned (.bool true) ∧ Below w.heap.size w w' := by
  have hup := Try.underlying28
  have hup2 := Try.underlying45
  have hblk := blk_new w (.cells #[.int .i64 0, .int .i64 (-1), .int .i64 1, .int .i64 2] 3 (0, 0))
  have hbel := below_alloc (Below.refl w.heap.size w) (.cells #[.int .i64 0, .int .i64 (-1), .int .i64 1, .int .i64 2] 3 (0, 0))
  have hbe := Best_any 4 0 [0, -1, 1, 2] (some ⟨w.heap.size, 0, none⟩) 4 _ (by simp) (lit4 hblk) span4
  rw [best4] at hbe
  have HBE : Aside0 (Calls Try.prog 26 #[.int .i64 4, .int .i64 0, .slice (some ⟨w.heap.size, 0, none⟩) 4 4] (w.alloc (.cells #[.int .i64 0, .int .i64 (-1), .int .i64 1, .int .i64 2] 3 (0, 0))) fun e w' => ∃ vP vE, e = .returned (.tuple #[.agg #[.int .i64 0, .int .i64 0, vP, vE], .int .i64 21]) ∧
      IntsAt w' (w.alloc (.cells #[.int .i64 0, .int .i64 (-1), .int .i64 1, .int .i64 2] 3 (0, 0))).heap.size vP [0] ∧ IntsAt w' (w.alloc (.cells #[.int .i64 0, .int .i64 (-1), .int .i64 1, .int .i64 2] 3 (0, 0))).heap.size vE [-1] ∧ Below (w.alloc (.cells #[.int .i64 0, .int .i64 (-1), .int .i64 1, .int .i64 2] 3 (0, 0))).heap.size (w.alloc (.cells #[.int .i64 0, .int .i64 (-1), .int .i64 1, .int .i64 2] 3 (0, 0))) w') := ⟨hbe⟩
  have HC0 : Aside0 (Kd.C (Kd.int .i64) (w.alloc (.cells #[.int .i64 0, .int .i64 (-1), .int .i64 1, .int .i64 2] 3 (0, 0))) (some ⟨w.heap.size, 0, none⟩) 4 [0, -1, 1, 2]) := ⟨lit4 hblk⟩
  have HB0 := Aside0.mk hbel
  clear hblk hbel hbe
  go_enter Try.func9, Try.ntmps9
  go_wp2_with fail
  with_reducible refine HBE.out.mono ?_
  generalize w.alloc (.cells #[.int .i64 0, .int .i64 (-1), .int .i64 1, .int .i64 2] 3) = w0 at *
  rintro e w1 ⟨vP, vE, rfl, hP, hE, hb⟩
  obtain ⟨AP, cP, rfl, hcP, hCP⟩ := hP.C
  obtain ⟨AE, cE, rfl, hcE, hCE⟩ := hE.C
  have HB1 := Aside0.mk (HB0.out.trans (hb.mono HB0.out.size))
  have HC1 := Aside0.mk (Kd.C_below HC0.out hb)
  have HP1 : Aside0 (Kd.C (Kd.int .i64) w1 AP 1 [0]) := ⟨hCP⟩
  have HE1 : Aside0 (Kd.C (Kd.int .i64) w1 AE 1 [-1]) := ⟨hCE⟩
  have hcP1 : 1 ≤ cP := hcP
  have hcE1 : 1 ≤ cE := hcE
  clear hb hP hE hcP hcE hCP hCE HB0 HC0 HBE
  have HN := Aside0.mk (blk_new w1 (.cells zRice 24 (0, 0)))
  have hbN := below_setRow (below_alloc (Below.refl w1.heap.size w1) (.cells zRice 24 (0, 0))) (Nat.le_refl _) #[.int .i64 0, .int .i64 0, .slice AP 1 cP, .slice AE 1 cE]
  have HX2 := Aside0.mk (setRow_heap _ _ _ #[.int .i64 0, .int .i64 0, .slice AP 1 cP, .slice AE 1 cE] _ _ HN.out)
  have HB2 := Aside0.mk (HB1.out.trans (hbN.mono HB1.out.size))
  have HC2 := Aside0.mk (Kd.C_below HC1.out hbN)
  have HP2 := Aside0.mk (Kd.C_below HP1.out hbN)
  have HE2 := Aside0.mk (Kd.C_below HE1.out hbN)
  clear hbN HC1 HP1 HE1
  go_upto_region 3 with ((with_reducible refine wpList_store_row ?_ 24 (.tmp 2) (.tmp 14) ?_ (w1.heap.size) (#[.int .i64 0, .int .i64 0, .slice AP 1 cP, .slice AE 1 cE]) ?_ ?_ 24 (zRice) (HN.out) (rc_info _ _ _ _) ?_ (rc_one _ _ _ _ _ _ _ _) ?_); rfl; rfl; rfl; rfl; rfl)
  generalize (w1.alloc (.cells zRice 24 (0, 0))).setRow w1.heap.size #[.int .i64 0, .int .i64 0, .slice AP 1 cP, .slice AE 1 cE] = w2 at *
  generalize w1.heap.size = g2 at *
  clear HN
  have HW3 := Aside0.mk (new_at w2 w2.heap.size (Nat.le_refl _))
  have hb3 := below_alloc (Below.refl w2.heap.size w2) (.cells #[.int .i64 0, .slice none 0 0] 64)
  go_wp2_with fail
  refine (New_any _).mono ?_
  rintro e w3 ⟨rfl, rfl⟩
  generalize w2.alloc (.cells #[.int .i64 0, .slice none 0 0] 64) = w3 at HW3 hb3 ⊢
  have hsz : w.heap.size ≤ w2.heap.size := HB2.out.size
  have hg2 : g2 < w2.heap.size := blk_lt HX2.out
  have hLP : ListAt w3 w2.heap.size (.slice none 0 0) AP [0] := ListAt.elder HP2.out hb3 (Nat.le_refl _) (fun k hk => by simp [Value.ownBlock] at hk)
  have hLE : ListAt w3 w2.heap.size (.slice none 0 0) AE [-1] := ListAt.elder HE2.out hb3 (Nat.le_refl _) (fun k hk => by simp [Value.ownBlock] at hk)
  have hLL : ListAt w3 w2.heap.size (.slice none 0 0) (some ⟨w.heap.size, 0, none⟩) [0, -1, 1, 2] := ListAt.elder HC2.out hb3 (Nat.le_refl _) (fun k hk => by simp [Value.ownBlock] at hk)
  have hen := Encode_any 0 0 4 0 AP AE (some ⟨w.heap.size, 0, none⟩) cP cE 4 [0] [-1] [0, -1, 1, 2] [] w2.heap.size w2.heap.size (.slice none 0 0) w3 (by decide) (by decide) span4 hcP1 hcE1 (by simp) HW3.out hLP hLE hLL (by simp)
  rw [if_pos can4, if_pos can4, List.nil_append] at hen
  have HEN : Aside0 (Calls Try.prog 13 #[.pointer (some ⟨w2.heap.size, 0, none⟩), .agg #[.int .i64 0, .int .i64 0, .slice AP 1 cP, .slice AE 1 cE], .int .i64 4, .int .i64 0, .slice (some ⟨w.heap.size, 0, none⟩) 4 4] w3 fun e w' => e = .returned (.int .i64 0) ∧ ∃ v', WAt w' w2.heap.size w2.heap.size v' (bitsE 0 0 [0] [-1] 4 0 [0, -1, 1, 2]) ∧ Moved w2.heap.size w2.heap.size w3 (.slice none 0 0) w' v') := ⟨hen⟩
  have hb3' : Below w2.heap.size w2 w3 := hb3
  have HX3 := Aside0.mk (blk_below HX2.out hb3)
  have HBB3 := Aside0.mk hb3'
  have c0 := blk_cell HX3.out 0
  have c1 := blk_cell HX3.out 1
  have c2 := blk_cell HX3.out 2
  have c3 := blk_cell HX3.out 3
  clear hen hb3 hb3' hLP hLE hLL HW3
  go_wp2_with fail
  with_reducible refine HEN.out.mono ?_
  rintro e w4 ⟨rfl, v4, hw4, hm4⟩
  have HB4 := Aside0.mk (HBB3.out.trans hm4.below)
  have HW4 := Aside0.mk hw4
  have HLEN := Aside0.mk len4
  have HDEC := Aside0.mk dec4
  clear hw4 hm4 HBB3 HX3 c0 c1 c2 c3 HEN
  generalize bitsE 0 0 [0] [-1] 4 0 [0, -1, 1, 2] = bx at HW4 HLEN HDEC
  have HBY := Aside0.mk (Bytes_any bx _ _ v4 w4 HW4.out)
  have HSS : Aside0 ((strOfNums (pack bx)).size = 3) := ⟨by rw [pack_size, HLEN.out]⟩
  generalize strOfNums (pack bx) = s at HBY HDEC HSS
  go_wp2_with fail
  with_reducible refine HBY.out.mono ?_
  rintro e w4' ⟨rfl, rfl⟩
  clear HBY
  go_wp2_with fail
  with_reducible refine (Of_any s w4).mono ?_
  rintro e w5 ⟨rfl, rfl⟩
  have hR5 : RAt (w4.alloc (.cells #[.int .i64 0, .string s] 75)) w4.heap.size s 0 := blk_new w4 _
  have hb5 := below_alloc (Below.refl w4.heap.size w4) (.cells #[.int .i64 0, .string s] 75)
  generalize w4.alloc (.cells #[.int .i64 0, .string s] 75) = w5 at hR5 hb5 ⊢
  have hde := Decode_any s (by rw [HSS.out]; decide) 0 (Nat.zero_le _) 4 0 w4.heap.size w4.heap.size (Nat.le_refl _) w5 hb5.size hR5
  rw [HDEC.out] at hde
  have HDE := Aside0.mk hde
  have HB5 := Aside0.mk hb5
  clear hR5 hb5 hde
  go_wp2_with fail
  with_reducible refine HDE.out.mono ?_
  rintro e w6 ⟨vl, vP', vE', rfl, hl6, hp6, he6, ⟨q, hr6, hq6, hq0⟩, ht6⟩
  have hq21 : q = 21 := hq0 (by first | rfl | trivial)
  subst hq21
  have HB6 := Aside0.mk (HB5.out.trans ht6.below)
  obtain ⟨AL, cL, rfl, hcL, hCL⟩ := hl6.C
  obtain ⟨AP', cP', rfl, hcP', hCP'⟩ := hp6.C
  obtain ⟨AE', cE', rfl, hcE', hCE'⟩ := he6.C
  have HL6 : Aside0 (Kd.C (Kd.int .i64) w6 AL 4 [0, -1, 1, 2]) := ⟨hCL⟩
  have HP6 : Aside0 (Kd.C (Kd.int .i64) w6 AP' 1 [0]) := ⟨hCP'⟩
  have HE6 : Aside0 (Kd.C (Kd.int .i64) w6 AE' 1 [-1]) := ⟨hCE'⟩
  have HR6 := Aside0.mk hr6
  have hcL4 : 4 ≤ cL := hcL
  have hcP4 : 1 ≤ cP' := hcP'
  have hcE4 : 1 ≤ cE' := hcE'
  clear hl6 hp6 he6 hr6 hq6 hq0 ht6 hCL hCP' hCE' hcL hcP' hcE' HDE HB5
  have HN := Aside0.mk (blk_new w6 (.cells zRice 24 (0, 0)))
  have hbN := below_setRow (below_alloc (Below.refl w6.heap.size w6) (.cells zRice 24 (0, 0))) (Nat.le_refl _) #[.int .i64 0, .int .i64 0, .slice AP' 1 cP', .slice AE' 1 cE']
  have HX7 := Aside0.mk (setRow_heap _ _ _ #[.int .i64 0, .int .i64 0, .slice AP' 1 cP', .slice AE' 1 cE'] _ _ HN.out)
  have HB7 := Aside0.mk hbN
  clear hbN
  go_upto_region 11 with ((with_reducible refine wpList_store_row ?_ 24 (.tmp 8) (.tmp 32) ?_ (w6.heap.size) (#[.int .i64 0, .int .i64 0, .slice AP' 1 cP', .slice AE' 1 cE']) ?_ ?_ 24 (zRice) (HN.out) (rc_info _ _ _ _) ?_ (rc_one _ _ _ _ _ _ _ _) ?_); rfl; rfl; rfl; rfl; rfl)
  generalize (w6.alloc (.cells zRice 24 (0, 0))).setRow w6.heap.size #[.int .i64 0, .int .i64 0, .slice AP' 1 cP', .slice AE' 1 cE'] = w7 at *
  clear HN
  have HF : Aside0 (∀ W, Below w7.heap.size w7 W → WAt W w2.heap.size w2.heap.size v4 bx ∧ RAt W w4.heap.size s 21 ∧ W.heap[g2]? = some (.cells #[.int .i64 0, .int .i64 0, .slice AP 1 cP, .slice AE 1 cE] 24 (0, 0)) ∧ W.heap[w6.heap.size]? = some (.cells #[.int .i64 0, .int .i64 0, .slice AP' 1 cP', .slice AE' 1 cE'] 24 (0, 0)) ∧
      Kd.C (Kd.int .i64) W (some ⟨w.heap.size, 0, none⟩) 4 [0, -1, 1, 2] ∧ Kd.C (Kd.int .i64) W AP 1 [0] ∧ Kd.C (Kd.int .i64) W AE 1 [-1] ∧ Kd.C (Kd.int .i64) W AL 4 [0, -1, 1, 2] ∧ Kd.C (Kd.int .i64) W AP' 1 [0] ∧ Kd.C (Kd.int .i64) W AE' 1 [-1] ∧ Below w.heap.size w W) := ⟨fun W hW => by
    have h67 : Below w6.heap.size w6 W := HB7.out.trans (hW.mono HB7.out.size)
    have h47 : Below w4.heap.size w4 W := HB6.out.trans (h67.mono HB6.out.size)
    have h27 : Below w2.heap.size w2 W := HB4.out.trans (h47.mono HB4.out.size)
    exact ⟨HW4.out.below h47, HR6.out.below h67, blk_below HX2.out h27, blk_below HX7.out hW, Kd.C_below HC2.out h27, Kd.C_below HP2.out h27, Kd.C_below HE2.out h27, Kd.C_below HL6.out h67, Kd.C_below HP6.out h67, Kd.C_below HE6.out h67, HB2.out.trans (h27.mono hsz)⟩⟩
  clear HB2 HX2 HC2 HP2 HE2 HB4 HW4 HB6 HL6 HP6 HE6 HR6 HX7 HB7 HSS HDEC
  generalize w2.heap.size = gw at *
  generalize w4.heap.size = gr at *
  generalize w6.heap.size = g7 at *
  obtain ⟨f1, f2, f3, f4, f5, f6, f7, f8, f9, f10, f11⟩ := HF.out w7 (Below.refl _ _)
  have c2 := blk_cell f3 2
  obtain ⟨adP, rfl, hxP⟩ := C_cell f6 0 (by decide)
  rw [Addr.add_zero'] at hxP
  have HLE := fun W hW => Len_any bx gw gw v4 W (HF.out W hW).1
  rw [HLEN.out] at HLE
  have HLE := Aside0.mk HLE
  have HIN : Aside0 (∀ W, Below w7.heap.size w7 W → Calls Try.prog 23 #[.slice AL 4 cL, .slice (some ⟨w.heap.size, 0, none⟩) 4 4] W fun e w' => e = .returned (.bool true) ∧ Drawn0 W w') := ⟨fun W hW => Ints_same [0, -1, 1, 2] (by decide) AL cL (some ⟨w.heap.size, 0, none⟩) 4 W (HF.out W hW).2.2.2.2.2.2.2.1 hcL4 (HF.out W hW).2.2.2.2.1 (by decide)⟩
  have HSA : Aside0 (∀ W, Below w7.heap.size w7 W → Calls Try.prog 24 #[.agg #[.int .i64 0, .int .i64 0, .slice (some adP) 1 cP, .slice AE 1 cE], .agg #[.int .i64 0, .int .i64 0, .slice AP' 1 cP', .slice AE' 1 cE']] W fun e w' => e = .returned (.bool true) ∧ Below W.heap.size W w') := ⟨fun W hW =>
    Same_same 0 0 [0] [-1] (by decide) (by decide) (some adP) AE AP' AE' cP cE cP' cE' W (HF.out W hW).2.2.2.2.2.1 hcP1 (HF.out W hW).2.2.2.2.2.2.1 hcE1 (HF.out W hW).2.2.2.2.2.2.2.2.1 hcP4 (HF.out W hW).2.2.2.2.2.2.2.2.2.1 hcE4⟩
  have HAT := Aside0.mk (fun W hW => At_any s 21 gr W (HF.out W hW).2.1)
  have HCO : Aside0 (∀ W (k : Int), Below w7.heap.size w7 W → Calls Try.prog 28 #[.slice (some ⟨w.heap.size, 0, none⟩) 4 4, .int .i64 k] W fun e w' => e = .returned (.int .i64 (costF [0, -1, 1, 2] k)) ∧ Drawn0 W w') := ⟨fun W k hW => Cost_any [0, -1, 1, 2] k (some ⟨w.heap.size, 0, none⟩) 4 W (by decide) span4 (HF.out W hW).2.2.2.2.1 (by decide)⟩
  clear f1 f2 f3 f4 f5 f6 f7 f8 f9 f10 f11
  go_wp2_with fail
  with_reducible refine (HLE.out _ (Below.refl _ _)).mono ?_
  rintro e w8 ⟨rfl, rfl⟩
  clear c2 hxP
  go_wp2_with fail
  with_reducible refine (HIN.out _ (Below.refl _ _)).mono ?_
  rintro e w8 ⟨rfl, hd8⟩
  have HB8 : Aside0 (Below w7.heap.size w7 w8) := ⟨hd8.below⟩
  clear hd8
  obtain ⟨f1, f2, f3, f4, f5, f6, f7, f8, f9, f10, f11⟩ := HF.out w8 HB8.out
  have c0 := blk_cell f3 0
  have c1 := blk_cell f3 1
  have c2 := blk_cell f3 2
  have c3 := blk_cell f3 3
  have d0 := blk_cell f4 0
  have d1 := blk_cell f4 1
  have d2 := blk_cell f4 2
  have d3 := blk_cell f4 3
  clear f1 f2 f3 f4 f5 f6 f7 f8 f9 f10 f11
  go_wp2_with fail
  with_reducible refine (HSA.out _ HB8.out).mono ?_
  rintro e w9 ⟨rfl, hb9⟩
  have HB9 : Aside0 (Below w7.heap.size w7 w9) := ⟨HB8.out.trans (hb9.mono HB8.out.size)⟩
  clear hb9 c0 c1 c2 c3 d0 d1 d2 d3
  go_wp2_with fail
  with_reducible refine (HAT.out _ HB9.out).mono ?_
  rintro e w10 ⟨rfl, hd10⟩
  have HB10 : Aside0 (Below w7.heap.size w7 w10) := ⟨HB9.out.trans (hd10.below.mono HB9.out.size)⟩
  clear hd10
  go_wp2_with fail
  with_reducible refine (HCO.out _ _ HB10.out).mono ?_
  rw [cost41]
  rintro e w11 ⟨rfl, hd11⟩
  have HB11 : Aside0 (Below w7.heap.size w7 w11) := ⟨HB10.out.trans (hd11.below.mono HB10.out.size)⟩
  clear hd11
  go_wp2_with fail
  with_reducible refine (HCO.out _ _ HB11.out).mono ?_
  rw [cost4n]
  rintro e w12 ⟨rfl, hd12⟩
  have HB12 : Aside0 (Below w7.heap.size w7 w12) := ⟨HB11.out.trans (hd12.below.mono HB11.out.size)⟩
  clear hd12
  go_wp2
  go_ret
  exact ⟨rfl, (HF.out _ HB12.out).2.2.2.2.2.2.2.2.2.2⟩
end Go.Proofs.Ytfhekkoibmlmpaa.Hand

/- Contracts of layer 8, proved by hand: the reference's Best, its words. -/
namespace Go.Proofs.Ytfhekkoibmlmpaa.Hand
open Go.RowKit Go.Proofs.Ytfhekkoibmlmpaa.Q Go.Proofs.YtfhekkoibmlmpaaW.PrintWords Go.Proofs.YtfhekkoibmlmpaaW.PrintLast Go.Proofs.YtfhekkoibmlmpaaW.PrintMore
set_option linter.unusedVariables false
set_option linter.unusedSimpArgs false

/-- A recipe that grows, in a block of its own. -/
structure RTry (w0 : World) (b11 : Nat) (o : Int) (wr : World) (vP vE : Value) (ps es : List Int) : Prop where
  bel : Below w0.heap.size w0 wr
  r11 : wr.heap[b11]? = some (.cells #[.int .i64 0, .int .i64 o, vP, vE] 24 (0, 0))
  P : IntsAt wr w0.heap.size vP ps
  E : IntsAt wr w0.heap.size vE es
  d3 : Dis vP vE
theorem RTry.below {w0 : World} {b11 : Nat} {o : Int} {wr w' : World} {vP vE : Value} {ps es : List Int} (h : RTry w0 b11 o wr vP vE ps es) (hb : Below wr.heap.size wr w') : RTry w0 b11 o w' vP vE ps es :=
  ⟨h.bel.trans (hb.mono h.bel.size), blk_below h.r11 hb, h.P.below hb, h.E.below hb, h.d3⟩
theorem RTry.two {w0 : World} {b11 : Nat} {o o' : Int} {W0 W : World} {vP vE vP' vE' : Value} {ps es ps' es' : List Int} (h : RTry w0 b11 o W0 vP vE ps es)
    (ht : TwoRows w0.heap.size b11 24 W0 vP vE W #[.int .i64 0, .int .i64 o', vP', vE'] vP' vE' ps' es') : RTry w0 b11 o' W vP' vE' ps' es' :=
  ⟨h.bel.trans ht.below, ht.box, ht.P, ht.E, ht.dis⟩
end Go.Proofs.Ytfhekkoibmlmpaa.Hand

/- Contracts of layer 8, proved by hand: RiceBest. -/
namespace Go.Proofs.Ytfhekkoibmlmpaa.Hand
open Go.RowKit Go.Proofs.Ytfhekkoibmlmpaa.Q Go.Proofs.YtfhekkoibmlmpaaW.PrintWords Go.Proofs.YtfhekkoibmlmpaaW.PrintLast Go.Proofs.YtfhekkoibmlmpaaW.PrintMore
set_option linter.unusedVariables false
set_option linter.unusedSimpArgs false

theorem C_len {w : World} {A : Option Addr} {xs : List Int} (h : Kd.C (Kd.int .i64) w A xs.length xs) : xs.length ≤ 9223372036854775807 := h.2.1
end Go.Proofs.Ytfhekkoibmlmpaa.Hand

/- Contracts of layer 8, proved by hand: the reference's Encode (method 0). -/
namespace Go.Proofs.Ytfhekkoibmlmpaa.Hand
open Go.RowKit Go.Proofs.Ytfhekkoibmlmpaa.Q Go.Proofs.YtfhekkoibmlmpaaW.PrintWords Go.Proofs.YtfhekkoibmlmpaaW.PrintLast Go.Proofs.YtfhekkoibmlmpaaW.PrintMore
set_option linter.unusedVariables false
set_option linter.unusedSimpArgs false

set_option maxHeartbeats 16000000 in
set_option maxRecDepth 100000 in
theorem REncode_go0 (O n Bk Od : Nat) (AP AE A : Option Addr) (cP cE c : Nat) (ps es l : List Int) (bs : List Bool) (B g : Nat) (v : Value) (w : World) (ho : O ≤ 15) (hb : Bk ≤ 65535) (hord : Od ≤ 32) (hdiv : Bk = 2 ^ O * n) (hn : Od ≤ n) (hl : l.length + Od = Bk) (hps : ps.length = 2 ^ O) (hes : es.length = 2 ^ O)
    (hok : ∀ i : Nat, i < ps.length → okPE 0 (rd ps (i : Int)) (rd es (i : Int))) (hin : ∀ x ∈ l, -4000 ≤ x ∧ x ≤ 4000) (hcP : ps.length ≤ cP) (hcE : es.length ≤ cE) (hc : l.length ≤ c)
    (hW : XW w B g v bs) (hP : Kd.C (Kd.int .i64) w AP ps.length ps) (hE : Kd.C (Kd.int .i64) w AE es.length es) (hA : Kd.C (Kd.int .i64) w A l.length l) (hck : checkP 0 O ps es Bk Od) (hbs : bs.length ≤ 1000) :
    Calls Try.prog 14 #[.pointer (some ⟨g, 0, none⟩), .agg #[.int .i64 0, .int .i64 O, .slice AP ps.length cP, .slice AE es.length cE], .int .i64 Bk, .int .i64 Od, .slice A l.length c] w
      fun e w' => e = .returned (.int .i64 (if allMay n Od ps es l ps.length = true then 0 else 60)) ∧ ∃ v', XW w' B g v' (if allMay n Od ps es l ps.length = true then bs ++ (nbits 0 2 ++ (nbits O 4 ++ partsX 4 n Od ps es l ps.length)) else bs) ∧ Moved B g w v w' v' := by
  have hup := Try.underlying30
  have hpl : 2 ^ O ≤ 32768 := by
    have : 2 ^ O ≤ 2 ^ 15 := Nat.pow_le_pow_right (by decide) ho
    have e15 : (2 : Nat) ^ 15 = 32768 := by decide
    omega
  have hNp : 0 < 2 ^ O := Nat.two_pow_pos O
  have hpn : 2 ^ O * n ≤ 65535 := by rw [← hdiv]; exact hb
  have hn6 : n ≤ 65535 := by
    have : 1 * n ≤ 2 ^ O * n := Nat.mul_le_mul_right n hNp
    omega
  obtain ⟨kk, hk⟩ := (xcheck_ev 0 O ps es Bk Od).rounds
  rw [if_pos hck] at hk
  have hb1 : Below w.heap.size w (w.alloc (.cells #[.int .i64 0, .int .i64 O, .slice AP ps.length cP, .slice AE es.length cE] 24)) := below_alloc (Below.refl _ _) _
  have HK : Aside0 (∀ W, Below w.heap.size w W → Calls Try.prog 19 #[.agg #[.int .i64 0, .int .i64 O, .slice AP ps.length cP, .slice AE es.length cE], .int .i64 Bk, .int .i64 Od] W fun e w' => e = .returned (.int .i64 0) ∧ Below W.heap.size W w') :=
    ⟨fun W hW => lacquerref08_Check.calls kk 0 O AP cP ps AE cE es Bk Od _ W (Kd.C_below hP hW) hcP (Kd.C_below hE hW) hcE hk⟩
  have HPT : Aside0 (∀ (i : Nat) W, Below w.heap.size w W → i < 2 ^ O → Calls Try.prog 35 #[.agg #[.int .i64 0, .int .i64 O, .slice AP ps.length cP, .slice AE es.length cE], .int .i64 Bk, .int .i64 Od, .int .i64 i] W fun e w' => e = .returned (.tuple #[.int .i64 ((i * n - Od : Nat) : Int), .int .i64 (((i + 1) * n - Od : Nat) : Int)]) ∧ Below W.heap.size W w') :=
    ⟨fun i W hW hi => lacquerref08_part.calls 0 O AP cP ps AE cE es Bk Od i _ _ W (Kd.C_below hP hW) hcP (Kd.C_below hE hW) hcE (xpart_eq 0 O Bk Od n i ps es ho hb hord hdiv hn hi)⟩
  obtain ⟨X, hX⟩ : ∃ X, allMay n Od ps es l ps.length = X := ⟨_, rfl⟩
  have HX := Aside0.mk hX
  have HBAD : Aside0 (∀ i j : Nat, i < ps.length → j < (partL l n Od i).length → mayOk (rd ps (i : Int)) (rd es (i : Int)) (rd (partL l n Od i) (j : Int)) = false → X = false) := ⟨fun i j hi hj hm => by
    rw [← hX]
    unfold allMay
    rw [List.all_eq_false]
    exact ⟨i, List.mem_range.2 hi, by rw [mayF_bad _ j _ _ hj (by rw [hm]; decide)]; decide⟩⟩
  have hPLN : ∀ i : Nat, i < 2 ^ O → i * n - Od + (partL l n Od i).length = (i + 1) * n - Od := fun i hi => by
    have h1 : (i + 1) * n ≤ 2 ^ O * n := Nat.mul_le_mul_right n (by omega)
    have h2 : (i + 1) * n = i * n + n := Nat.succ_mul i n
    unfold partL
    rw [List.length_drop, List.length_take]
    omega
  have HPLN := Aside0.mk hPLN
  have HLENB : Aside0 (∀ i : Nat, i < ps.length → 0 ≤ rd ps (i : Int) ∧ rd ps (i : Int) ≤ 30 ∧ rd es (i : Int) ≤ 31) := ⟨fun j hj => by
    obtain ⟨k0, k1, e0, e1, _⟩ := hok j hj
    exact ⟨k0, by split at k1 <;> omega, e1⟩⟩
  have HNN : Aside0 (∀ i, i ≤ ps.length → i * n ≤ 65535) := ⟨fun i hi => Nat.le_trans (Nat.mul_le_mul_right n (by omega)) hpn⟩
  have HOK := Aside0.mk hok
  have HIN := Aside0.mk hin
  have HB1 := Aside0.mk hb1
  have HBX1 := Aside0.mk (blk_new w (.cells #[.int .i64 0, .int .i64 O, .slice AP ps.length cP, .slice AE es.length cE] 24 (0, 0)))
  have HP := Aside0.mk hP
  have HE := Aside0.mk hE
  have HA := Aside0.mk hA
  have HW := Aside0.mk hW
  have hBw : B ≤ w.heap.size := by have := hW.lt; have := hW.2.2; omega
  have hgw : g < w.heap.size := hW.lt
  have hl6 : l.length ≤ 65535 := by omega
  have hne : (((l.length : Int)) != (Bk : Int) - (Od : Int)) = false := bne_eq_false_iff_eq.mpr (by omega)
  obtain ⟨N, hN⟩ : ∃ N, 2 ^ O = N := ⟨_, rfl⟩
  have HJ := Aside0.mk (shl1 O N ho hN)
  rw [hN] at hpl hNp hpn hps hes HPT HPLN
  have HO : Aside0 (O ≤ 15) := ⟨ho⟩
  have HPS := Aside0.mk hps
  have HXS : Aside0 (∀ i, i ≤ ps.length → allMay n Od ps es l i = true → (partsX 4 n Od ps es l i).length ≤ 10 * i + 16777300 * (i * n)) := ⟨fun i hi hm => partsX_length 4 n Od ps es l i i (by decide) hm (fun j hj => HLENB.out j (by omega)) (Nat.le_refl _)⟩
  clear hk hb1 hP hE hA hX hck hok hin hdiv hN hPLN hn hW hpn hb
  obtain ⟨oI, hoI⟩ : ∃ oI : Int, (O : Int) = oI := ⟨_, rfl⟩
  have o0 : 0 ≤ oI := by omega
  have o1 : oI ≤ 15 := by omega
  have HOI := Aside0.mk hoI
  rw [hoI] at HK HPT HB1 HBX1 HJ ⊢
  rw [HX.out]
  obtain ⟨er, her⟩ : ∃ er : Int, (if X = true then 0 else 60) = er := ⟨_, rfl⟩
  obtain ⟨out, hout⟩ : ∃ out : List Bool, (if X = true then bs ++ (nbits 0 2 ++ (nbits O 4 ++ partsX 4 n Od ps es l ps.length)) else bs) = out := ⟨_, rfl⟩
  have HNO : Aside0 (X = false → er = 60 ∧ out = bs) := ⟨fun h => by subst h; exact ⟨her.symm, hout.symm⟩⟩
  have HYES : Aside0 (X = true → er = 0 ∧ out = bs ++ (nbits 0 2 ++ (nbits O 4 ++ partsX 4 n Od ps es l ps.length))) := ⟨fun h => by subst h; exact ⟨her.symm, hout.symm⟩⟩
  rw [her, hout]
  clear hoI ho her hout
  have hpn : N = ps.length := hps.symm
  subst hpn
  have hle1 : ps.length ≤ es.length := by omega
  clear hps hes
  go_enter Try.func14, Try.ntmps14
  go_wp2_with fail
  with_reducible refine (HK.out _ HB1.out).mono ?_
  rintro e w2 ⟨rfl, hB⟩
  have HB2 := Aside0.mk (HB1.out.trans (hB.mono HB1.out.size))
  have HBX2 := Aside0.mk (blk_below HBX1.out hB)
  clear hB HB1 HK HBX1
  have hsz2 : w.heap.size < w2.heap.size := blk_lt HBX2.out
  obtain ⟨b, hbz⟩ : ∃ b, w.heap.size = b := ⟨_, rfl⟩
  have HBZ := Aside0.mk hbz
  rw [hbz] at HBX2 hsz2 hBw hgw ⊢
  have HB3 := Aside0.mk (below_alloc (Below.refl w2.heap.size w2) (.cells #[.slice none 0 0] 33 (0, 0)))
  have HX3 : Aside0 (XW (w2.alloc (.cells #[.slice none 0 0] 33 (0, 0))) w2.heap.size w2.heap.size (.slice none 0 0) []) := ⟨⟨blk_new w2 _, BytesAt.nil _ _, Nat.le_refl _⟩⟩
  go_upto_region 9 with fail
  generalize w2.alloc (.cells #[.slice none 0 0] 33 (0, 0)) = w3 at HB3 HX3 ⊢
  obtain ⟨b1, hb1⟩ : ∃ b1, w2.heap.size = b1 := ⟨_, rfl⟩
  have HBB := Aside0.mk hb1
  rw [hb1] at HB3 HX3 hsz2 ⊢
  have HCL : Aside0 (∀ W, Below b1 w2 W → W.heap[b]? = some (.cells #[.int .i64 0, .int .i64 oI, .slice AP ps.length cP, .slice AE es.length cE] 24 (0, 0)) ∧ Below w.heap.size w W ∧ Kd.C (Kd.int .i64) W AP ps.length ps ∧ Kd.C (Kd.int .i64) W AE es.length es ∧ Kd.C (Kd.int .i64) W A l.length l ∧ XW W B g v bs) := ⟨fun W h => by
    have h2 : Below w2.heap.size w2 W := by rw [HBB.out]; exact h
    have h3 : Below w.heap.size w W := HB2.out.trans (h.mono (by rw [HBZ.out]; omega))
    exact ⟨blk_below HBX2.out h2, h3, Kd.C_below HP.out h3, Kd.C_below HE.out h3, Kd.C_below HA.out h3, HW.out.below h3⟩⟩
  clear hb1 hbz HP HE HA HW
  have d0 := blk_cell (HCL.out _ HB3.out).1 0
  have d1 := blk_cell (HCL.out _ HB3.out).1 1
  have HP1 := Aside0.mk (XPut_i 0 2 (nbits 0 2) rfl (by omega) (by omega) (by omega) (by decide) [] b1 b1 _ w3 HX3.out (by simp))
  go_wp2_with fail
  with_reducible refine HP1.out.mono ?_
  rintro e w4 ⟨rfl, v4, hx4, hm4⟩
  have HB4 := Aside0.mk (HB3.out.trans hm4.below)
  have HX4 := Aside0.mk hx4
  clear hx4 hm4 HB3 HX3 HP1 d0 d1
  have d0 := blk_cell (HCL.out _ HB4.out).1 0
  have d1 := blk_cell (HCL.out _ HB4.out).1 1
  have HP1 := Aside0.mk (XPut_i oI 4 (nbits O 4) (by rw [← HOI.out]; rfl) o0 (by omega) (by omega) (by rw [show (2 : Int) ^ (4 : Int).toNat = 16 by decide]; omega) _ b1 b1 _ w4 HX4.out (by simp [nbits_length]))
  go_wp2_with fail
  with_reducible refine HP1.out.mono ?_
  rintro e w5 ⟨rfl, v5, hx5, hm5⟩
  have HB5 := Aside0.mk (HB4.out.trans hm5.below)
  have HX5 := Aside0.mk hx5
  clear hx5 hm5 HB4 HX4 HP1 d0 d1
  have d0 := blk_cell (HCL.out _ HB5.out).1 0
  go_wp2
  go_loopw [14] (fun iv wr => ∃ (i : Nat) (y : Value), i ≤ ps.length ∧ iv = .int .i64 i ∧ Aside0 (allMay n Od ps es l i = true) ∧ Aside0 (XW wr b1 b1 y (nbits 0 2 ++ (nbits O 4 ++ partsX 4 n Od ps es l i))) ∧ Aside0 (Below b1 w2 wr)) (fun iv _ => ps.length - (intOf iv).toNat)
  case atStart => exact ⟨0, v5, by omega, rfl, ⟨rfl⟩, ⟨by simpa [partsX] using HX5.out⟩, HB5⟩
  case round =>
    clear HX5 HB5 d0
    obtain ⟨i, y, hi, rfl, HM, HS, HB⟩ := hrel
    obtain ⟨hbox, hbw, hcP, hcE, hcA, hxw⟩ := HCL.out wr HB.out
    have d0 := blk_cell hbox 0
    have d1 := blk_cell hbox 1
    have d2 := blk_cell hbox 2
    have d3 := blk_cell hbox 3
    have HXW := Aside0.mk hxw
    have HBW := Aside0.mk hbw
    by_cases hlt : i < ps.length
    · have i0 : (0 : Int) ≤ (i : Int) := by omega
      have i1 : (i : Int) < (ps.length : Int) := by omega
      have i2 : (i : Int) < (es.length : Int) := by omega
      obtain ⟨adP, rfl, hxP⟩ := C_cell hcP i hlt
      obtain ⟨adE, rfl, hxE⟩ := C_cell hcE i (by omega)
      have HRDS : Aside0 (∀ W, Below b1 w2 W → W.cell? (adP.add i) = some (.int .i64 (rd ps (i : Int))) ∧ W.cell? (adE.add i) = some (.int .i64 (rd es (i : Int))) ∧ W.cell? ⟨b, 0, none⟩ = some (.int .i64 0) ∧ W.cell? ⟨b, 1, none⟩ = some (.int .i64 oI) ∧ W.cell? ⟨b, 2, none⟩ = some (.slice (some adP) ps.length cP) ∧ W.cell? ⟨b, 3, none⟩ = some (.slice (some adE) es.length cE)) := ⟨fun W hW => by
        obtain ⟨hbox, hbw, hcP, hcE, hcA, hxw⟩ := HCL.out W hW
        obtain ⟨a1, q1, z1⟩ := C_cell hcP i hlt
        obtain ⟨a2, q2, z2⟩ := C_cell hcE i (by omega)
        injection q1 with q1
        injection q2 with q2
        subst q1 q2
        exact ⟨z1, z2, blk_cell hbox 0, blk_cell hbox 1, blk_cell hbox 2, blk_cell hbox 3⟩⟩
      have HRL : Aside0 (∀ W, Below b1 w2 W → ∀ j, j < (partL l n Od i).length → ∃ ad, A = some ad ∧ W.cell? (ad.add (i * n - Od + j)) = some (.int .i64 (rd (partL l n Od i) (j : Int)))) := ⟨fun W hW j hj => by
        obtain ⟨hbox, hbw, hcP, hcE, hcA, hxw⟩ := HCL.out W hW
        obtain ⟨h1, h2⟩ := partL_rd l n Od i j hj
        obtain ⟨a1, q1, z1⟩ := C_cell hcA _ h2
        exact ⟨a1, q1, by rw [h1]; exact z1⟩⟩
      have HPi := Aside0.mk (fun W hW => HPT.out i W hW hlt)
      have hlen := HPLN.out i hlt
      have hnx : (i + 1) * n = i * n + n := Nat.succ_mul i n
      have hnx2 := HNN.out (i + 1) (by omega)
      obtain ⟨k0, k1, e0, e1, ek⟩ := HOK.out i hlt
      have hXl := HXS.out i hi HM.out
      have hpi : ∀ x ∈ partL l n Od i, -4000 ≤ x ∧ x ≤ 4000 := fun x hx => HIN.out x (List.mem_of_mem_take (List.mem_of_mem_drop hx))
      have HPI := Aside0.mk hpi
      have HRD : Aside0 (∀ j, j < (partL l n Od i).length → rd (partL l n Od i) (j : Int) = rd l ((i * n - Od + j : Nat) : Int) ∧ i * n - Od + j < l.length) := ⟨fun j hj => partL_rd l n Od i j hj⟩
      have hX : partsX 4 n Od ps es l (i + 1) = partsX 4 n Od ps es l i ++ (headX 4 (rd ps (i : Int)) (rd es (i : Int)) ++ bodyX (rd ps (i : Int)) (rd es (i : Int)) (partL l n Od i)) := partsX_snoc 4 n Od ps es l i
      have HX1 := Aside0.mk hX
      have HBADi : Aside0 (∀ j : Nat, j < (partL l n Od i).length → mayOk (rd ps (i : Int)) (rd es (i : Int)) (rd (partL l n Od i) (j : Int)) = false → X = false) := ⟨fun j => HBAD.out i j hlt⟩
      have HMN : Aside0 (mayF (partL l n Od i) (rd ps (i : Int)) (rd es (i : Int)) = true → allMay n Od ps es l (i + 1) = true) := ⟨fun h => by
        have := HM.out
        unfold allMay at this ⊢
        rw [List.range_succ, List.all_append, this, Bool.true_and]
        simpa using h⟩
      obtain ⟨Z, hZ⟩ : ∃ Z, nbits 0 2 ++ (nbits O 4 ++ partsX 4 n Od ps es l i) = Z := ⟨_, rfl⟩
      have hZl : Z.length + 20000000 + 16777300 * n < 70000000000000 := by
        rw [← hZ, List.length_append, List.length_append, nbits_length, nbits_length]
        omega
      have HNX : Aside0 (∀ Y, Y = Z ++ (headX 4 (rd ps (i : Int)) (rd es (i : Int)) ++ bodyX (rd ps (i : Int)) (rd es (i : Int)) (partL l n Od i)) → Y = nbits 0 2 ++ (nbits O 4 ++ partsX 4 n Od ps es l (i + 1))) := ⟨fun Y hY => by rw [hY, ← hZ, HX1.out]; simp⟩
      rw [hZ] at HS
      have hlp := partL_length l n Od i
      have k2 : rd ps (i : Int) < 15 := by simp at k1; omega
      clear hX HX1 hZ hpi k1 hXl
      obtain ⟨f, hf⟩ : ∃ f, i * n - Od = f := ⟨_, rfl⟩
      obtain ⟨t, ht⟩ : ∃ t, (i + 1) * n - Od = t := ⟨_, rfl⟩
      rw [hf, ht] at hlen HPi
      rw [hf] at HRD HRL
      have hf6 : f ≤ 65535 := by omega
      have ht6 : t ≤ 65535 := by omega
      generalize rd ps (i : Int) = kk at hxP k0 k2 ek HNX HBADi HMN HRDS
      generalize rd es (i : Int) = ee at hxE e0 e1 ek HNX HBADi HMN HRDS
      have HPL : Aside0 ((partL l n Od i).length ≤ n) := ⟨hlp⟩
      generalize hpl2 : partL l n Od i = pl at hlen HPI HRD HRL HNX HBADi HMN HPL
      clear hpl2 hlp hf ht hnx hnx2
      obtain ⟨K, rfl⟩ := Int.eq_ofNat_of_zero_le k0
      have hK30 : K < 15 := by omega
      have HPC := Aside0.mk (HPi.out wr HBW.out)
      have HA1 := Aside0.mk hcA
      clear hcP hcE hcA hxw hbw HBAD HPT HPi
      obtain ⟨j9, j0, j1, j2, j3, j4, ju⟩ := HJ.out
      go_wp2_with fail
      clear j9 j0 j1 j2 j3 j4 ju
      with_reducible refine HPC.out.mono ?_
      rintro e w6 ⟨rfl, hn6'⟩
      have hx6 := HS.out.below hn6'
      have hbel6 : Below b1 w2 w6 := HB.out.trans (hn6'.mono (by have := HS.out.lt; omega))
      have HS6 := Aside0.mk hx6
      have HB6 := Aside0.mk hbel6
      clear hn6' hx6 hbel6 hbox d0 d1 d2 d3 HS HB HPC HXW HBW hxE hxP HA1
      obtain ⟨rP, rE, d0, d1, d2, d3⟩ := HRDS.out w6 HB6.out
      by_cases he : ee < 0
      · have hhd : headX 4 (K : Int) ee = nbits K 4 := by unfold headX; rw [if_pos he, Int.toNat_natCast]
        rw [hhd] at HNX
        clear hhd ek
        have HP1 := Aside0.mk (XPut_i K 4 (nbits K 4) rfl (by omega) (by omega) (by omega) (by rw [show (2 : Int) ^ (4 : Int).toNat = 15 + 1 by decide]; omega) _ b1 b1 y w6 HS6.out (by omega))
        go_wp2_with fail
        with_reducible refine HP1.out.mono ?_
        rintro e w7 ⟨rfl, v7, hx7, hm7⟩
        have HB7 := Aside0.mk (HB6.out.trans hm7.below)
        have HX7 := Aside0.mk hx7
        clear hx7 hm7 HB6 HS6 HP1 rP rE d0 d1 d2 d3
        go_wp2
        go_loopw [18] (fun jv wr => ∃ (k j : Nat) (y : Value), Aside0 (f + j = k) ∧ j ≤ pl.length ∧ jv = .int .i64 k ∧ Aside0 (mayF (pl.take j) K ee = true) ∧ Aside0 (XW wr b1 b1 y (Z ++ (nbits K 4 ++ bodyX K ee (pl.take j)))) ∧ Aside0 (Below b1 w2 wr)) (fun jv _ => f + pl.length - (intOf jv).toNat)
        case atStart => exact ⟨f, 0, v7, ⟨rfl⟩, by omega, rfl, ⟨rfl⟩, ⟨by simpa [bodyX] using HX7.out⟩, HB7⟩
        case round =>
          clear HX7 HB7
          obtain ⟨k, j, y, HFK, hj, rfl, HMJ, HS, HB⟩ := hrel
          have hfk := HFK.out
          by_cases hjl : j < pl.length
          · have j0 : (0 : Int) ≤ (k : Int) := by omega
            have j1 : (k : Int) < (t : Int) := by omega
            obtain ⟨adL, rfl, hx⟩ := HRL.out wr HB.out j hjl
            rw [hfk] at hx
            have k6 : k ≤ 65535 := by omega
            have j2 : (k : Int) < (l.length : Int) := by have := (HRD.out j hjl).2; omega
            obtain ⟨x0, x1⟩ := HPI.out _ (rd_mem pl j hjl)
            have hbl := bodyX_length K ee (pl.take j) HMJ.out (by omega) (by omega) e1
            have htl : (pl.take j).length = j := by rw [List.length_take]; omega
            have hsn := bodyX_snoc K ee pl j hjl
            have hpn9 := HPL.out
            have hLX : (Z ++ (nbits K 4 ++ bodyX K ee (pl.take j))).length + 16777400 < 140737488355328 := by rw [List.length_append, List.length_append, nbits_length]; omega
            obtain ⟨rP, rE, d0, d1, d2, d3⟩ := HRDS.out wr HB.out
            have HSd := Aside0.mk (HS.out.below (below_drew (Below.refl _ _)))
            have HBd : Aside0 (Below b1 w2 wr.drew) := ⟨below_drew HB.out⟩
            have hcx : codeX K ee (rd pl (j : Int)) = riceB (rd pl (j : Int)) K := by unfold codeX; rw [if_pos he, Int.toNat_natCast]
            have hmo : mayOk K ee (rd pl (j : Int)) = decide (riceP (rd pl (j : Int)) (K : Nat)) := by
              unfold mayOk riceP
              rw [if_pos he]
              exact decide_eq_decide.2 ⟨fun h => ⟨by omega, by omega, h⟩, fun h => h.2.2⟩
            have HMK : Aside0 (mayOk K ee (rd pl (j : Int)) = true → mayF (pl.take (j + 1)) K ee = true) := ⟨fun h => mayF_snoc pl j K ee hjl HMJ.out h⟩
            have HBDj : Aside0 (mayOk K ee (rd pl (j : Int)) = false → X = false) := ⟨fun h => HBADi.out j hjl h⟩
            have HNB : Aside0 (∀ Y, Y = (Z ++ (nbits K 4 ++ bodyX K ee (pl.take j))) ++ riceB (rd pl (j : Int)) K → Y = Z ++ (nbits K 4 ++ bodyX K ee (pl.take (j + 1)))) := ⟨fun Y hY => by rw [hY, hsn, hcx]; simp⟩
            rw [hmo] at HMK HBDj
            clear hbl htl hsn hcx hpn9 hmo HS HB hfk
            generalize rd pl (j : Int) = x at hx x0 x1 HMK HBDj HNB
            by_cases hri : riceP x K
            · have HMF := Aside0.mk (HMK.out (decide_eq_true hri))
              have HR1 := Aside0.mk (XRice_yes x K (by omega) (by omega) hri _ b1 b1 y wr.drew HSd.out hLX)
              clear hri HMK HBDj hLX
              go_wp2
              go_still_tail 10, (by kernel_rfl)
              change wpList _ _ _ _ _ wr.drew
              clear rP rE d0 d1 d2 d3 hx
              generalize wr.drew = wz at HSd HBd HR1 ⊢
              go_wp2_with fail
              with_reducible refine HR1.out.mono ?_
              rintro e w8 ⟨rfl, v8, hx8, hm8⟩
              rw [HNB.out _ rfl] at hx8
              have HB8 := Aside0.mk (HBd.out.trans hm8.below)
              have HX8 := Aside0.mk hx8
              clear hx8 hm8 HBd HSd HR1 HNB
              go_wp2
              go_roundw
              case rel => exact ⟨k + 1, j + 1, v8, ⟨by have := HFK.out; omega⟩, by omega, by go_num, HMF, HX8, HB8⟩
              case measure => have := HFK.out; simp [intOf]; omega
            · have HXF := Aside0.mk (HBDj.out (decide_eq_false hri))
              have HR1 := Aside0.mk (XRice_no x K (by omega) (by omega) hri b1 wr.drew)
              clear hri HMK HBDj hLX HNB
              go_wp2
              go_still_tail 10, (by kernel_rfl)
              change wpList _ _ _ _ _ wr.drew
              clear rP rE d0 d1 d2 d3 hx
              generalize wr.drew = wz at HSd HBd HR1 ⊢
              go_wp2_with fail
              with_reducible refine HR1.out.mono ?_
              rintro e w8 ⟨rfl, hd8⟩
              have HB8 : Aside0 (Below b1 w2 w8) := ⟨HBd.out.trans (hd8.below.mono (by have := HSd.out.lt; omega))⟩
              clear hd8 HBd HSd HR1
              go_wp2
              go_ret
              obtain ⟨hbox, hbw, hcP, hcE, hcA, hxw⟩ := HCL.out w8 HB8.out
              obtain ⟨rfl, rfl⟩ := HNO.out HXF.out
              exact ⟨rfl, v, hxw, (Moved.refl B g w v).new hbw (by rw [HBZ.out]; exact hBw)⟩
          · obtain rfl : j = pl.length := by omega
            have hs8 := HS.out
            rw [List.take_length, HNX.out _ rfl] at hs8
            have HS8 := Aside0.mk hs8
            have hm8 := HMJ.out
            rw [List.take_length] at hm8
            have HM8 := Aside0.mk (HMN.out hm8)
            have j1 : ¬ (k : Int) < (t : Int) := by omega
            clear hs8 HS hm8 hfk
            go_wp2
            go_roundw
            case rel => exact ⟨i + 1, y, by omega, by go_num, HM8, HS8, HB⟩
            case measure => simp [intOf]; omega
      · obtain ⟨E, rfl⟩ := Int.eq_ofNat_of_zero_le (show 0 ≤ ee by omega)
        have hhd : headX 4 (K : Int) (E : Int) = nbits 15 4 ++ nbits E 5 := by unfold headX; rw [if_neg he, Int.toNat_natCast]
        rw [hhd] at HNX
        clear hhd
        have HP1 := Aside0.mk (XPut_i 15 4 (nbits 15 4) rfl (by omega) (by omega) (by omega) (by decide) _ b1 b1 y w6 HS6.out (by omega))
        go_wp2_with fail
        with_reducible refine HP1.out.mono ?_
        rintro e w7 ⟨rfl, v7, hx7, hm7⟩
        have HB7 := Aside0.mk (HB6.out.trans hm7.below)
        have HX7 := Aside0.mk hx7
        clear hx7 hm7 HB6 HS6 HP1 rP rE d0 d1 d2 d3
        obtain ⟨rP, rE, d0, d1, d2, d3⟩ := HRDS.out w7 HB7.out
        have HP1 := Aside0.mk (XPut_i E 5 (nbits E 5) rfl (by omega) (by omega) (by omega) (by rw [show (2 : Int) ^ (5 : Int).toNat = 32 by decide]; omega) _ b1 b1 v7 w7 HX7.out (by rw [List.length_append, nbits_length]; omega))
        go_wp2_with fail
        with_reducible refine HP1.out.mono ?_
        rintro e w8 ⟨rfl, v9, hx8, hm8⟩
        have HB9 := Aside0.mk (HB7.out.trans hm8.below)
        rw [List.append_assoc] at hx8
        have HX9 := Aside0.mk hx8
        clear hx8 hm8 HB7 HX7 HP1 rP rE d0 d1 d2 d3
        by_cases he0 : 0 < (E : Int)
        · skip
          go_wp2
          go_loopw [18] (fun jv wr => ∃ (k j : Nat) (y : Value), Aside0 (f + j = k) ∧ j ≤ pl.length ∧ jv = .int .i64 k ∧ Aside0 (mayF (pl.take j) K E = true) ∧ Aside0 (XW wr b1 b1 y (Z ++ ((nbits 15 4 ++ nbits E 5) ++ bodyX K E (pl.take j)))) ∧ Aside0 (Below b1 w2 wr)) (fun jv _ => f + pl.length - (intOf jv).toNat)
          case atStart => exact ⟨f, 0, v9, ⟨rfl⟩, by omega, rfl, ⟨rfl⟩, ⟨by simpa [bodyX] using HX9.out⟩, HB9⟩
          case round =>
            clear HX9 HB9
            obtain ⟨k, j, y, HFK, hj, rfl, HMJ, HS, HB⟩ := hrel
            have hfk := HFK.out
            by_cases hjl : j < pl.length
            · have j0 : (0 : Int) ≤ (k : Int) := by omega
              have j1 : (k : Int) < (t : Int) := by omega
              obtain ⟨adL, rfl, hx⟩ := HRL.out wr HB.out j hjl
              rw [hfk] at hx
              have k6 : k ≤ 65535 := by omega
              have j2 : (k : Int) < (l.length : Int) := by have := (HRD.out j hjl).2; omega
              obtain ⟨x0, x1⟩ := HPI.out _ (rd_mem pl j hjl)
              have hbl := bodyX_length K E (pl.take j) HMJ.out (by omega) (by omega) e1
              have htl : (pl.take j).length = j := by rw [List.length_take]; omega
              have hsn := bodyX_snoc K E pl j hjl
              have hpn9 := HPL.out
              have hLX : (Z ++ ((nbits 15 4 ++ nbits E 5) ++ bodyX K E (pl.take j))).length + 16777400 < 140737488355328 := by rw [List.length_append, List.length_append, List.length_append, nbits_length, nbits_length]; omega
              obtain ⟨rP, rE, d0, d1, d2, d3⟩ := HRDS.out wr HB.out
              have HSd := HS
              have HBd := HB
              have hcx : codeX K E (rd pl (j : Int)) = nbits (wordN (rd pl (j : Int))) E := by unfold codeX; rw [if_neg (show ¬ (E : Int) < 0 by omega), if_pos he0, Int.toNat_natCast]
              have hmo : mayOk K E (rd pl (j : Int)) = decide (fitsP (rd pl (j : Int)) (E : Nat)) := by
                unfold mayOk
                rw [if_neg (show ¬ (E : Int) < 0 by omega), if_pos he0]
              have HMK : Aside0 (mayOk K E (rd pl (j : Int)) = true → mayF (pl.take (j + 1)) K E = true) := ⟨fun h => mayF_snoc pl j K E hjl HMJ.out h⟩
              have HBDj : Aside0 (mayOk K E (rd pl (j : Int)) = false → X = false) := ⟨fun h => HBADi.out j hjl h⟩
              have HNB : Aside0 (∀ Y, Y = (Z ++ ((nbits 15 4 ++ nbits E 5) ++ bodyX K E (pl.take j))) ++ nbits (wordN (rd pl (j : Int))) E → Y = Z ++ ((nbits 15 4 ++ nbits E 5) ++ bodyX K E (pl.take (j + 1)))) := ⟨fun Y hY => by rw [hY, hsn, hcx]; simp⟩
              rw [hmo] at HMK HBDj
              clear hbl htl hsn hcx hpn9 hmo HS HB hfk
              generalize rd pl (j : Int) = x at hx x0 x1 HMK HBDj HNB
              by_cases hri : fitsP x E
              · have HMF := Aside0.mk (HMK.out (decide_eq_true hri))
                have HR1 := Aside0.mk (XSigned_yes x E (by omega) (by omega) hri _ b1 b1 y wr HSd.out (by omega))
                clear hri HMK HBDj hLX
                go_wp2_with fail
                clear rP rE d0 d1 d2 d3 hx
                with_reducible refine HR1.out.mono ?_
                rintro e w8 ⟨rfl, v8, hx8, hm8⟩
                rw [HNB.out _ rfl] at hx8
                have HB8 := Aside0.mk (HBd.out.trans hm8.below)
                have HX8 := Aside0.mk hx8
                clear hx8 hm8 HBd HSd HR1 HNB
                go_wp2
                go_roundw
                case rel => exact ⟨k + 1, j + 1, v8, ⟨by have := HFK.out; omega⟩, by omega, by go_num, HMF, HX8, HB8⟩
                case measure => have := HFK.out; simp [intOf]; omega
              · have HXF := Aside0.mk (HBDj.out (decide_eq_false hri))
                have HR1 := Aside0.mk (XSigned_no x E (by omega) (by omega) hri b1 wr)
                clear hri HMK HBDj hLX HNB
                go_wp2_with fail
                clear rP rE d0 d1 d2 d3 hx
                with_reducible refine HR1.out.mono ?_
                rintro e w8 ⟨rfl, hd8⟩
                have HB8 : Aside0 (Below b1 w2 w8) := ⟨HBd.out.trans (hd8.below.mono (by have := HSd.out.lt; omega))⟩
                clear hd8 HBd HSd HR1
                go_wp2
                go_ret
                obtain ⟨hbox, hbw, hcP, hcE, hcA, hxw⟩ := HCL.out w8 HB8.out
                obtain ⟨rfl, rfl⟩ := HNO.out HXF.out
                exact ⟨rfl, v, hxw, (Moved.refl B g w v).new hbw (by rw [HBZ.out]; exact hBw)⟩
            · obtain rfl : j = pl.length := by omega
              have hs8 := HS.out
              rw [List.take_length, HNX.out _ rfl] at hs8
              have HS8 := Aside0.mk hs8
              have hm8 := HMJ.out
              rw [List.take_length] at hm8
              have HM8 := Aside0.mk (HMN.out hm8)
              have j1 : ¬ (k : Int) < (t : Int) := by omega
              clear hs8 HS hm8 hfk
              go_wp2
              go_roundw
              case rel => exact ⟨i + 1, y, by omega, by go_num, HM8, HS8, HB⟩
              case measure => simp [intOf]; omega
        · obtain rfl : E = 0 := by omega
          clear he he0
          go_wp2
          go_loopw [18] (fun jv wr => ∃ (k j : Nat), Aside0 (f + j = k) ∧ j ≤ pl.length ∧ jv = .int .i64 k ∧ Aside0 (mayF (pl.take j) K 0 = true) ∧ Aside0 (XW wr b1 b1 v9 (Z ++ (nbits 15 4 ++ nbits 0 5))) ∧ Aside0 (Below b1 w2 wr)) (fun jv _ => f + pl.length - (intOf jv).toNat)
          case atStart => exact ⟨f, 0, ⟨rfl⟩, by omega, rfl, ⟨rfl⟩, HX9, HB9⟩
          case round =>
            clear HX9 HB9
            obtain ⟨k, j, HFK, hj, rfl, HMJ, HS, HB⟩ := hrel
            have hfk := HFK.out
            by_cases hjl : j < pl.length
            · have j0 : (0 : Int) ≤ (k : Int) := by omega
              have j1 : (k : Int) < (t : Int) := by omega
              obtain ⟨adL, rfl, hx⟩ := HRL.out wr HB.out j hjl
              rw [hfk] at hx
              have k6 : k ≤ 65535 := by omega
              have j2 : (k : Int) < (l.length : Int) := by have := (HRD.out j hjl).2; omega
              have hmo : mayOk K ((0 : Nat) : Int) (rd pl (j : Int)) = decide (rd pl (j : Int) = 0) := by
                unfold mayOk
                rw [if_neg (by decide), if_neg (by decide)]
              have HMK : Aside0 (mayOk K ((0 : Nat) : Int) (rd pl (j : Int)) = true → mayF (pl.take (j + 1)) K 0 = true) := ⟨fun h => mayF_snoc pl j K 0 hjl HMJ.out h⟩
              have HBDj : Aside0 (mayOk K ((0 : Nat) : Int) (rd pl (j : Int)) = false → X = false) := ⟨fun h => HBADi.out j hjl h⟩
              rw [hmo] at HMK HBDj
              clear hmo hfk
              generalize rd pl (j : Int) = x at hx HMK HBDj
              by_cases hri : x = 0
              · have HMF := Aside0.mk (HMK.out (decide_eq_true hri))
                subst hri
                clear HMK HBDj
                go_wp2
                go_roundw
                case rel => exact ⟨k + 1, j + 1, ⟨by have := HFK.out; omega⟩, by omega, by go_num, HMF, HS, HB⟩
                case measure => have := HFK.out; simp [intOf]; omega
              · have HXF := Aside0.mk (HBDj.out (decide_eq_false hri))
                have hb0 : (x == 0) = false := beq_eq_false_iff_ne.mpr hri
                have hb1 : (x != 0) = true := bne_iff_ne.mpr hri
                clear hri HMK HBDj
                go_wp2
                go_ret
                obtain ⟨hbox, hbw, hcP, hcE, hcA, hxw⟩ := HCL.out wr HB.out
                obtain ⟨rfl, rfl⟩ := HNO.out HXF.out
                exact ⟨rfl, v, hxw, (Moved.refl B g w v).new hbw (by rw [HBZ.out]; exact hBw)⟩
            · obtain rfl : j = pl.length := by omega
              have hs8 := HS.out
              rw [HNX.out (Z ++ (nbits 15 4 ++ nbits 0 5)) (by
                have : bodyX K ((0 : Nat) : Int) pl = [] := by
                  unfold bodyX codeX
                  simp
                rw [this]
                simp)] at hs8
              have HS8 := Aside0.mk hs8
              have hm8 := HMJ.out
              rw [List.take_length] at hm8
              have HM8 := Aside0.mk (HMN.out hm8)
              have j1 : ¬ (k : Int) < (t : Int) := by omega
              clear hs8 HS hm8 hfk
              go_wp2
              go_roundw
              case rel => exact ⟨i + 1, v9, by omega, by go_num, HM8, HS8, HB⟩
              case measure => simp [intOf]; omega
    · obtain rfl : i = ps.length := by omega
      have hxt : X = true := by rw [← HX.out]; exact HM.out
      obtain ⟨hvA, hvc, hvE⟩ := Kd.R_slice hxw.2.1
      obtain ⟨A9, c9, e9, hl9, hC9⟩ := Kd.R_reads HS.out.2.1
      have hfit := HXS.out ps.length (Nat.le_refl _) HM.out
      have hnn := HNN.out ps.length (Nat.le_refl _)
      have hYl : (nbits 0 2 ++ (nbits O 4 ++ partsX 4 n Od ps es l ps.length)).length ≤ 1100000000000 := by
        rw [List.length_append, List.length_append, nbits_length, nbits_length]
        omega
      have c0 : wr.cell? ⟨g, 0, none⟩ = some v := blk_cell hxw.1 0
      have f0 : wr.frozen? ⟨g, 0, none⟩ = false := blk_frozen hxw.1 0
      have HYS := Aside0.mk (HYES.out hxt)
      have HSY := HS
      clear HYES HNO HBAD HM
      generalize nbits 0 2 ++ (nbits O 4 ++ partsX 4 n Od ps es l ps.length) = Y at HYS HSY hl9 hC9 hYl e9
      have cx : wr.cell? ⟨b1, 0, none⟩ = some y := blk_cell HSY.out.1 0
      subst e9
      rw [ones_length] at hC9 cx
      have HC9 := Aside0.mk hC9
      have HL9 : Aside0 ((ones bs).length + (ones Y).length ≤ 1200000000000) := ⟨by rw [ones_length, ones_length]; omega⟩
      have HOY := Aside0.mk (ones_length Y)
      have hi2 : ¬ (ps.length : Int) < (ps.length : Int) := Int.lt_irrefl _
      have hBb : B ≤ wr.heap.size := by have := hxw.lt; have := hxw.2.2; omega
      have HBB2 := Aside0.mk (hbw.mono (show B ≤ w.heap.size by rw [HBZ.out]; exact hBw))
      have HM9 := Aside0.mk ((Moved.refl B g w v).new hbw (by rw [HBZ.out]; exact hBw))
      clear hxt hfit hnn hYl hC9 hl9 hbw HS hcP hcE hcA hxw d0 d2 d3 hbox
      subst hvE
      obtain ⟨j9, j0, j1, j2, j3, j4, ju⟩ := HJ.out
      go_upto_region 33 with fail
      clear j9 j0 j1 j2 j3 j4 ju
      have HWd := HXW.out.below (below_drew (Below.refl wr.heap.size wr))
      have HCd := Kd.C_below HC9.out (below_drew (Below.refl wr.heap.size wr))
      have HBd : Below B w wr.drew := below_drew HBB2.out
      have HMd := HM9.out.drew
      have hszd : wr.heap.size = wr.drew.heap.size := rfl
      rw [hszd] at hBb
      clear HXW HC9 HBB2 HM9 HBW HB HSY hszd
      go_wp2
      refine start_ (n := 13) (S := fun w' => w'.cell? ⟨g, 0, none⟩ = some (.slice hvA (ones bs).length hvc) ∧ w'.cell? ⟨b1, 0, none⟩ = some (.slice A9 Y.length c9)) (ds := [9, 12]) #[false, false, false, false, false, false, false, false, false, false, false, false, false] (by kernel_rfl) rfl rfl ⟨c0, cx⟩ (fun hHeld => ?_)
      refine pure_ (i := 0) (N := some 131) (v := ?_) (a' := ?_) #[true, false, false, false, false, false, false, false, false, false, false, false, false] rfl rfl (by kernel_rfl) (fun _ _ _ h => h) (Or.inl ⟨by rfl, ?_⟩) ?_ ?_
      rotate_left
      · intro w'
        go_simp
        with_reducible rfl
      rotate_left
      · simp only [Act.put, List.setIfInBounds_toArray, List.set_cons_zero, List.set_cons_succ, i64_w, i32_w]
        rfl
      refine pure_ (i := 1) (N := some 132) (v := ?_) (a' := ?_) #[true, true, false, false, false, false, false, false, false, false, false, false, false] rfl rfl (by kernel_rfl) (fun _ _ _ h => h) (Or.inl ⟨by rfl, ?_⟩) ?_ ?_
      rotate_left
      · intro w'
        go_simp
        with_reducible rfl
      rotate_left
      · simp only [Act.put, List.setIfInBounds_toArray, List.set_cons_zero, List.set_cons_succ, i64_w, i32_w]
        rfl
      refine pure_ (i := 2) (N := some 133) (v := ?_) (a' := ?_) #[true, true, true, false, false, false, false, false, false, false, false, false, false] rfl rfl (by kernel_rfl) (fun _ _ _ h => h) (Or.inl ⟨by rfl, ?_⟩) ?_ ?_
      rotate_left
      · intro w'
        go_simp
        with_reducible rfl
      rotate_left
      · simp only [Act.put, List.setIfInBounds_toArray, List.set_cons_zero, List.set_cons_succ, i64_w, i32_w]
        rfl
      refine pure_ (i := 3) (N := some 134) (v := ?_) (a' := ?_) #[true, true, true, true, false, false, false, false, false, false, false, false, false] rfl rfl (by kernel_rfl) (fun _ _ _ h => h) (Or.inl ⟨by rfl, ?_⟩) ?_ ?_
      rotate_left
      · intro w'
        go_simp
        with_reducible rfl
      rotate_left
      · simp only [Act.put, List.setIfInBounds_toArray, List.set_cons_zero, List.set_cons_succ, i64_w, i32_w]
        rfl
      refine pure_ (i := 5) (N := some 136) (v := ?_) (a' := ?_) #[true, true, true, true, false, true, false, false, false, false, false, false, false] rfl rfl (by kernel_rfl) (fun _ _ _ h => h) (Or.inl ⟨by rfl, ?_⟩) ?_ ?_
      rotate_left
      · intro w'
        go_simp
        with_reducible rfl
      rotate_left
      · simp only [Act.put, List.setIfInBounds_toArray, List.set_cons_zero, List.set_cons_succ, i64_w, i32_w]
        rfl
      refine pure_ (i := 6) (N := some 137) (v := ?_) (a' := ?_) #[true, true, true, true, false, true, true, false, false, false, false, false, false] rfl rfl (by kernel_rfl) (fun _ _ _ h => h) (Or.inl ⟨by rfl, ?_⟩) ?_ ?_
      rotate_left
      · intro w'
        go_simp
        with_reducible rfl
      rotate_left
      · simp only [Act.put, List.setIfInBounds_toArray, List.set_cons_zero, List.set_cons_succ, i64_w, i32_w]
        rfl
      refine pure_ (i := 7) (N := some 138) (v := ?_) (a' := ?_) #[true, true, true, true, false, true, true, true, false, false, false, false, false] rfl rfl (by kernel_rfl) (fun _ _ _ h => h) (Or.inl ⟨by rfl, ?_⟩) ?_ ?_
      rotate_left
      · intro w'
        go_simp
        with_reducible rfl
      rotate_left
      · simp only [Act.put, List.setIfInBounds_toArray, List.set_cons_zero, List.set_cons_succ, i64_w, i32_w]
        rfl
      refine take_ (i := 4) (N := some 135) (v := ?_) (a' := ?_) #[true, true, true, true, true, true, true, true, false, false, false, false, false] rfl rfl (by kernel_rfl) (fun _ _ _ h => h) (Or.inl ⟨by rfl, ?_⟩) hHeld ?_ ?_
      rotate_left
      · rintro w' ⟨s0, s1⟩
        go_simp
        with_reducible rfl
      rotate_left
      · simp only [Act.put, List.setIfInBounds_toArray, List.set_cons_zero, List.set_cons_succ, i64_w, i32_w]
        rfl
      refine take_ (i := 8) (N := some 139) (v := ?_) (a' := ?_) #[true, true, true, true, true, true, true, true, true, false, false, false, false] rfl rfl (by kernel_rfl) (fun _ _ _ h => h) (Or.inl ⟨by rfl, ?_⟩) hHeld ?_ ?_
      rotate_left
      · rintro w' ⟨s0, s1⟩
        go_simp
        with_reducible rfl
      rotate_left
      · simp only [Act.put, List.setIfInBounds_toArray, List.set_cons_zero, List.set_cons_succ, i64_w, i32_w]
        rfl
      refine last_ (i := 9) (N := some 140) #[true, true, true, true, true, true, true, true, true, true, false, false, false] rfl rfl (by kernel_rfl) (by decide) (fun K hK => ?_)
      refine app_bytelist_step (C := B) (v := .slice hvA (ones bs).length hvc) (xs := ones bs) (ys := ones Y) (A := A9) (c := c9) (.tmp 135) (.tmp 139) ?_ ?_ ?_ ?_ HWd.2.1 (by rw [HOY.out]; exact HCd) hBb HL9.out ?_
      · rfl
      · rfl
      · rfl
      · rw [HOY.out]; rfl
      intro v1 w1 hO1 hB1 hG1 hV1
      have hb1 := XW.grown HWd hG1
      have hm1 := Moved.app HMd hG1 (HBd.trans hB1) hV1
      obtain ⟨A1, k1, e1⟩ := Kd.R_slice hO1
      generalize (ones bs ++ ones Y).length = n1 at e1
      subst e1
      have c11 : w1.cell? ⟨g, 0, none⟩ = some (.slice hvA (ones bs).length hvc) := blk_cell hb1 0
      have f11 := blk_frozen hb1 0
      refine hK.out _ _ ?_
      clear hK K
      refine norm_ (a' := ?_) ?_ ?_
      rotate_left
      · show Act.put _ (some 140) _ = _
        simp only [Act.put, List.setIfInBounds_toArray, List.set_cons_zero, List.set_cons_succ, i64_w, i32_w]
        rfl
      refine pure_ (i := 10) (N := some 141) (v := ?_) (a' := ?_) #[true, true, true, true, true, true, true, true, true, true, true, false, false] rfl rfl (by kernel_rfl) (fun _ _ _ h => h) (Or.inl ⟨by rfl, ?_⟩) ?_ ?_
      rotate_left
      · intro w'
        go_simp
        with_reducible rfl
      rotate_left
      · simp only [Act.put, List.setIfInBounds_toArray, List.set_cons_zero, List.set_cons_succ, i64_w, i32_w]
        rfl
      refine pure_ (i := 11) (N := some 142) (v := ?_) (a' := ?_) #[true, true, true, true, true, true, true, true, true, true, true, true, false] rfl rfl (by kernel_rfl) (fun _ _ _ h => h) (Or.inl ⟨by rfl, ?_⟩) ?_ ?_
      rotate_left
      · intro w'
        go_simp
        with_reducible rfl
      rotate_left
      · simp only [Act.put, List.setIfInBounds_toArray, List.set_cons_zero, List.set_cons_succ, i64_w, i32_w]
        rfl
      refine last_ (i := 12) (N := none) #[true, true, true, true, true, true, true, true, true, true, true, true, true] rfl rfl (by kernel_rfl) (by decide) (fun K hK => ?_)
      refine skip_ (w1 := ?_) (by rfl) rfl ?_ ?_
      rotate_left
      · go_simp
        rfl
      refine hK.out _ _ ?_
      clear hK K
      refine done_ (by kernel_rfl) ?_
      go_wp2
      go_ret
      obtain ⟨rfl, rfl⟩ := HYS.out
      exact ⟨rfl, _, ⟨blk_put hb1 0 _ rfl, by rw [ones_append]; exact hO1.set hb1 (by decide) 0 _, HWd.2.2⟩, hm1.set HWd.2.2 0 _⟩
end Go.Proofs.Ytfhekkoibmlmpaa.Hand

/- Contracts of layer 8, proved by hand: the reference's Encode (method 1). -/
namespace Go.Proofs.Ytfhekkoibmlmpaa.Hand
open Go.RowKit Go.Proofs.Ytfhekkoibmlmpaa.Q Go.Proofs.YtfhekkoibmlmpaaW.PrintWords Go.Proofs.YtfhekkoibmlmpaaW.PrintLast Go.Proofs.YtfhekkoibmlmpaaW.PrintMore
set_option linter.unusedVariables false
set_option linter.unusedSimpArgs false

set_option maxHeartbeats 16000000 in
set_option maxRecDepth 100000 in
theorem REncode_go1 (O n Bk Od : Nat) (AP AE A : Option Addr) (cP cE c : Nat) (ps es l : List Int) (bs : List Bool) (B g : Nat) (v : Value) (w : World) (ho : O ≤ 15) (hb : Bk ≤ 65535) (hord : Od ≤ 32) (hdiv : Bk = 2 ^ O * n) (hn : Od ≤ n) (hl : l.length + Od = Bk) (hps : ps.length = 2 ^ O) (hes : es.length = 2 ^ O)
    (hok : ∀ i : Nat, i < ps.length → okPE 1 (rd ps (i : Int)) (rd es (i : Int))) (hin : ∀ x ∈ l, -4000 ≤ x ∧ x ≤ 4000) (hcP : ps.length ≤ cP) (hcE : es.length ≤ cE) (hc : l.length ≤ c)
    (hW : XW w B g v bs) (hP : Kd.C (Kd.int .i64) w AP ps.length ps) (hE : Kd.C (Kd.int .i64) w AE es.length es) (hA : Kd.C (Kd.int .i64) w A l.length l) (hck : checkP 1 O ps es Bk Od) (hbs : bs.length ≤ 1000) :
    Calls Try.prog 14 #[.pointer (some ⟨g, 0, none⟩), .agg #[.int .i64 1, .int .i64 O, .slice AP ps.length cP, .slice AE es.length cE], .int .i64 Bk, .int .i64 Od, .slice A l.length c] w
      fun e w' => e = .returned (.int .i64 (if allMay n Od ps es l ps.length = true then 0 else 60)) ∧ ∃ v', XW w' B g v' (if allMay n Od ps es l ps.length = true then bs ++ (nbits 1 2 ++ (nbits O 4 ++ partsX 5 n Od ps es l ps.length)) else bs) ∧ Moved B g w v w' v' := by
  have hup := Try.underlying30
  have hpl : 2 ^ O ≤ 32768 := by
    have : 2 ^ O ≤ 2 ^ 15 := Nat.pow_le_pow_right (by decide) ho
    have e15 : (2 : Nat) ^ 15 = 32768 := by decide
    omega
  have hNp : 0 < 2 ^ O := Nat.two_pow_pos O
  have hpn : 2 ^ O * n ≤ 65535 := by rw [← hdiv]; exact hb
  have hn6 : n ≤ 65535 := by
    have : 1 * n ≤ 2 ^ O * n := Nat.mul_le_mul_right n hNp
    omega
  obtain ⟨kk, hk⟩ := (xcheck_ev 1 O ps es Bk Od).rounds
  rw [if_pos hck] at hk
  have hb1 : Below w.heap.size w (w.alloc (.cells #[.int .i64 1, .int .i64 O, .slice AP ps.length cP, .slice AE es.length cE] 24)) := below_alloc (Below.refl _ _) _
  have HK : Aside0 (∀ W, Below w.heap.size w W → Calls Try.prog 19 #[.agg #[.int .i64 1, .int .i64 O, .slice AP ps.length cP, .slice AE es.length cE], .int .i64 Bk, .int .i64 Od] W fun e w' => e = .returned (.int .i64 0) ∧ Below W.heap.size W w') :=
    ⟨fun W hW => lacquerref08_Check.calls kk 1 O AP cP ps AE cE es Bk Od _ W (Kd.C_below hP hW) hcP (Kd.C_below hE hW) hcE hk⟩
  have HPT : Aside0 (∀ (i : Nat) W, Below w.heap.size w W → i < 2 ^ O → Calls Try.prog 35 #[.agg #[.int .i64 1, .int .i64 O, .slice AP ps.length cP, .slice AE es.length cE], .int .i64 Bk, .int .i64 Od, .int .i64 i] W fun e w' => e = .returned (.tuple #[.int .i64 ((i * n - Od : Nat) : Int), .int .i64 (((i + 1) * n - Od : Nat) : Int)]) ∧ Below W.heap.size W w') :=
    ⟨fun i W hW hi => lacquerref08_part.calls 1 O AP cP ps AE cE es Bk Od i _ _ W (Kd.C_below hP hW) hcP (Kd.C_below hE hW) hcE (xpart_eq 1 O Bk Od n i ps es ho hb hord hdiv hn hi)⟩
  obtain ⟨X, hX⟩ : ∃ X, allMay n Od ps es l ps.length = X := ⟨_, rfl⟩
  have HX := Aside0.mk hX
  have HBAD : Aside0 (∀ i j : Nat, i < ps.length → j < (partL l n Od i).length → mayOk (rd ps (i : Int)) (rd es (i : Int)) (rd (partL l n Od i) (j : Int)) = false → X = false) := ⟨fun i j hi hj hm => by
    rw [← hX]
    unfold allMay
    rw [List.all_eq_false]
    exact ⟨i, List.mem_range.2 hi, by rw [mayF_bad _ j _ _ hj (by rw [hm]; decide)]; decide⟩⟩
  have hPLN : ∀ i : Nat, i < 2 ^ O → i * n - Od + (partL l n Od i).length = (i + 1) * n - Od := fun i hi => by
    have h1 : (i + 1) * n ≤ 2 ^ O * n := Nat.mul_le_mul_right n (by omega)
    have h2 : (i + 1) * n = i * n + n := Nat.succ_mul i n
    unfold partL
    rw [List.length_drop, List.length_take]
    omega
  have HPLN := Aside0.mk hPLN
  have HLENB : Aside0 (∀ i : Nat, i < ps.length → 0 ≤ rd ps (i : Int) ∧ rd ps (i : Int) ≤ 30 ∧ rd es (i : Int) ≤ 31) := ⟨fun j hj => by
    obtain ⟨k0, k1, e0, e1, _⟩ := hok j hj
    exact ⟨k0, by split at k1 <;> omega, e1⟩⟩
  have HNN : Aside0 (∀ i, i ≤ ps.length → i * n ≤ 65535) := ⟨fun i hi => Nat.le_trans (Nat.mul_le_mul_right n (by omega)) hpn⟩
  have HOK := Aside0.mk hok
  have HIN := Aside0.mk hin
  have HB1 := Aside0.mk hb1
  have HBX1 := Aside0.mk (blk_new w (.cells #[.int .i64 1, .int .i64 O, .slice AP ps.length cP, .slice AE es.length cE] 24 (0, 0)))
  have HP := Aside0.mk hP
  have HE := Aside0.mk hE
  have HA := Aside0.mk hA
  have HW := Aside0.mk hW
  have hBw : B ≤ w.heap.size := by have := hW.lt; have := hW.2.2; omega
  have hgw : g < w.heap.size := hW.lt
  have hl6 : l.length ≤ 65535 := by omega
  have hne : (((l.length : Int)) != (Bk : Int) - (Od : Int)) = false := bne_eq_false_iff_eq.mpr (by omega)
  obtain ⟨N, hN⟩ : ∃ N, 2 ^ O = N := ⟨_, rfl⟩
  have HJ := Aside0.mk (shl1 O N ho hN)
  rw [hN] at hpl hNp hpn hps hes HPT HPLN
  have HO : Aside0 (O ≤ 15) := ⟨ho⟩
  have HPS := Aside0.mk hps
  have HXS : Aside0 (∀ i, i ≤ ps.length → allMay n Od ps es l i = true → (partsX 5 n Od ps es l i).length ≤ 10 * i + 16777300 * (i * n)) := ⟨fun i hi hm => partsX_length 5 n Od ps es l i i (by decide) hm (fun j hj => HLENB.out j (by omega)) (Nat.le_refl _)⟩
  clear hk hb1 hP hE hA hX hck hok hin hdiv hN hPLN hn hW hpn hb
  obtain ⟨oI, hoI⟩ : ∃ oI : Int, (O : Int) = oI := ⟨_, rfl⟩
  have o0 : 0 ≤ oI := by omega
  have o1 : oI ≤ 15 := by omega
  have HOI := Aside0.mk hoI
  rw [hoI] at HK HPT HB1 HBX1 HJ ⊢
  rw [HX.out]
  obtain ⟨er, her⟩ : ∃ er : Int, (if X = true then 0 else 60) = er := ⟨_, rfl⟩
  obtain ⟨out, hout⟩ : ∃ out : List Bool, (if X = true then bs ++ (nbits 1 2 ++ (nbits O 4 ++ partsX 5 n Od ps es l ps.length)) else bs) = out := ⟨_, rfl⟩
  have HNO : Aside0 (X = false → er = 60 ∧ out = bs) := ⟨fun h => by subst h; exact ⟨her.symm, hout.symm⟩⟩
  have HYES : Aside0 (X = true → er = 0 ∧ out = bs ++ (nbits 1 2 ++ (nbits O 4 ++ partsX 5 n Od ps es l ps.length))) := ⟨fun h => by subst h; exact ⟨her.symm, hout.symm⟩⟩
  rw [her, hout]
  clear hoI ho her hout
  have hpn : N = ps.length := hps.symm
  subst hpn
  have hle1 : ps.length ≤ es.length := by omega
  clear hps hes
  go_enter Try.func14, Try.ntmps14
  go_wp2_with fail
  with_reducible refine (HK.out _ HB1.out).mono ?_
  rintro e w2 ⟨rfl, hB⟩
  have HB2 := Aside0.mk (HB1.out.trans (hB.mono HB1.out.size))
  have HBX2 := Aside0.mk (blk_below HBX1.out hB)
  clear hB HB1 HK HBX1
  have hsz2 : w.heap.size < w2.heap.size := blk_lt HBX2.out
  obtain ⟨b, hbz⟩ : ∃ b, w.heap.size = b := ⟨_, rfl⟩
  have HBZ := Aside0.mk hbz
  rw [hbz] at HBX2 hsz2 hBw hgw ⊢
  have HB3 := Aside0.mk (below_alloc (Below.refl w2.heap.size w2) (.cells #[.slice none 0 0] 33 (0, 0)))
  have HX3 : Aside0 (XW (w2.alloc (.cells #[.slice none 0 0] 33 (0, 0))) w2.heap.size w2.heap.size (.slice none 0 0) []) := ⟨⟨blk_new w2 _, BytesAt.nil _ _, Nat.le_refl _⟩⟩
  go_upto_region 9 with fail
  generalize w2.alloc (.cells #[.slice none 0 0] 33 (0, 0)) = w3 at HB3 HX3 ⊢
  obtain ⟨b1, hb1⟩ : ∃ b1, w2.heap.size = b1 := ⟨_, rfl⟩
  have HBB := Aside0.mk hb1
  rw [hb1] at HB3 HX3 hsz2 ⊢
  have HCL : Aside0 (∀ W, Below b1 w2 W → W.heap[b]? = some (.cells #[.int .i64 1, .int .i64 oI, .slice AP ps.length cP, .slice AE es.length cE] 24 (0, 0)) ∧ Below w.heap.size w W ∧ Kd.C (Kd.int .i64) W AP ps.length ps ∧ Kd.C (Kd.int .i64) W AE es.length es ∧ Kd.C (Kd.int .i64) W A l.length l ∧ XW W B g v bs) := ⟨fun W h => by
    have h2 : Below w2.heap.size w2 W := by rw [HBB.out]; exact h
    have h3 : Below w.heap.size w W := HB2.out.trans (h.mono (by rw [HBZ.out]; omega))
    exact ⟨blk_below HBX2.out h2, h3, Kd.C_below HP.out h3, Kd.C_below HE.out h3, Kd.C_below HA.out h3, HW.out.below h3⟩⟩
  clear hb1 hbz HP HE HA HW
  have d0 := blk_cell (HCL.out _ HB3.out).1 0
  have d1 := blk_cell (HCL.out _ HB3.out).1 1
  have HP1 := Aside0.mk (XPut_i 1 2 (nbits 1 2) rfl (by omega) (by omega) (by omega) (by decide) [] b1 b1 _ w3 HX3.out (by simp))
  go_wp2_with fail
  with_reducible refine HP1.out.mono ?_
  rintro e w4 ⟨rfl, v4, hx4, hm4⟩
  have HB4 := Aside0.mk (HB3.out.trans hm4.below)
  have HX4 := Aside0.mk hx4
  clear hx4 hm4 HB3 HX3 HP1 d0 d1
  have d0 := blk_cell (HCL.out _ HB4.out).1 0
  have d1 := blk_cell (HCL.out _ HB4.out).1 1
  have HP1 := Aside0.mk (XPut_i oI 4 (nbits O 4) (by rw [← HOI.out]; rfl) o0 (by omega) (by omega) (by rw [show (2 : Int) ^ (4 : Int).toNat = 16 by decide]; omega) _ b1 b1 _ w4 HX4.out (by simp [nbits_length]))
  go_wp2_with fail
  with_reducible refine HP1.out.mono ?_
  rintro e w5 ⟨rfl, v5, hx5, hm5⟩
  have HB5 := Aside0.mk (HB4.out.trans hm5.below)
  have HX5 := Aside0.mk hx5
  clear hx5 hm5 HB4 HX4 HP1 d0 d1
  have d0 := blk_cell (HCL.out _ HB5.out).1 0
  go_wp2
  go_loopw [14] (fun iv wr => ∃ (i : Nat) (y : Value), i ≤ ps.length ∧ iv = .int .i64 i ∧ Aside0 (allMay n Od ps es l i = true) ∧ Aside0 (XW wr b1 b1 y (nbits 1 2 ++ (nbits O 4 ++ partsX 5 n Od ps es l i))) ∧ Aside0 (Below b1 w2 wr)) (fun iv _ => ps.length - (intOf iv).toNat)
  case atStart => exact ⟨0, v5, by omega, rfl, ⟨rfl⟩, ⟨by simpa [partsX] using HX5.out⟩, HB5⟩
  case round =>
    clear HX5 HB5 d0
    obtain ⟨i, y, hi, rfl, HM, HS, HB⟩ := hrel
    obtain ⟨hbox, hbw, hcP, hcE, hcA, hxw⟩ := HCL.out wr HB.out
    have d0 := blk_cell hbox 0
    have d1 := blk_cell hbox 1
    have d2 := blk_cell hbox 2
    have d3 := blk_cell hbox 3
    have HXW := Aside0.mk hxw
    have HBW := Aside0.mk hbw
    by_cases hlt : i < ps.length
    · have i0 : (0 : Int) ≤ (i : Int) := by omega
      have i1 : (i : Int) < (ps.length : Int) := by omega
      have i2 : (i : Int) < (es.length : Int) := by omega
      obtain ⟨adP, rfl, hxP⟩ := C_cell hcP i hlt
      obtain ⟨adE, rfl, hxE⟩ := C_cell hcE i (by omega)
      have HRDS : Aside0 (∀ W, Below b1 w2 W → W.cell? (adP.add i) = some (.int .i64 (rd ps (i : Int))) ∧ W.cell? (adE.add i) = some (.int .i64 (rd es (i : Int))) ∧ W.cell? ⟨b, 0, none⟩ = some (.int .i64 1) ∧ W.cell? ⟨b, 1, none⟩ = some (.int .i64 oI) ∧ W.cell? ⟨b, 2, none⟩ = some (.slice (some adP) ps.length cP) ∧ W.cell? ⟨b, 3, none⟩ = some (.slice (some adE) es.length cE)) := ⟨fun W hW => by
        obtain ⟨hbox, hbw, hcP, hcE, hcA, hxw⟩ := HCL.out W hW
        obtain ⟨a1, q1, z1⟩ := C_cell hcP i hlt
        obtain ⟨a2, q2, z2⟩ := C_cell hcE i (by omega)
        injection q1 with q1
        injection q2 with q2
        subst q1 q2
        exact ⟨z1, z2, blk_cell hbox 0, blk_cell hbox 1, blk_cell hbox 2, blk_cell hbox 3⟩⟩
      have HRL : Aside0 (∀ W, Below b1 w2 W → ∀ j, j < (partL l n Od i).length → ∃ ad, A = some ad ∧ W.cell? (ad.add (i * n - Od + j)) = some (.int .i64 (rd (partL l n Od i) (j : Int)))) := ⟨fun W hW j hj => by
        obtain ⟨hbox, hbw, hcP, hcE, hcA, hxw⟩ := HCL.out W hW
        obtain ⟨h1, h2⟩ := partL_rd l n Od i j hj
        obtain ⟨a1, q1, z1⟩ := C_cell hcA _ h2
        exact ⟨a1, q1, by rw [h1]; exact z1⟩⟩
      have HPi := Aside0.mk (fun W hW => HPT.out i W hW hlt)
      have hlen := HPLN.out i hlt
      have hnx : (i + 1) * n = i * n + n := Nat.succ_mul i n
      have hnx2 := HNN.out (i + 1) (by omega)
      obtain ⟨k0, k1, e0, e1, ek⟩ := HOK.out i hlt
      have hXl := HXS.out i hi HM.out
      have hpi : ∀ x ∈ partL l n Od i, -4000 ≤ x ∧ x ≤ 4000 := fun x hx => HIN.out x (List.mem_of_mem_take (List.mem_of_mem_drop hx))
      have HPI := Aside0.mk hpi
      have HRD : Aside0 (∀ j, j < (partL l n Od i).length → rd (partL l n Od i) (j : Int) = rd l ((i * n - Od + j : Nat) : Int) ∧ i * n - Od + j < l.length) := ⟨fun j hj => partL_rd l n Od i j hj⟩
      have hX : partsX 5 n Od ps es l (i + 1) = partsX 5 n Od ps es l i ++ (headX 5 (rd ps (i : Int)) (rd es (i : Int)) ++ bodyX (rd ps (i : Int)) (rd es (i : Int)) (partL l n Od i)) := partsX_snoc 5 n Od ps es l i
      have HX1 := Aside0.mk hX
      have HBADi : Aside0 (∀ j : Nat, j < (partL l n Od i).length → mayOk (rd ps (i : Int)) (rd es (i : Int)) (rd (partL l n Od i) (j : Int)) = false → X = false) := ⟨fun j => HBAD.out i j hlt⟩
      have HMN : Aside0 (mayF (partL l n Od i) (rd ps (i : Int)) (rd es (i : Int)) = true → allMay n Od ps es l (i + 1) = true) := ⟨fun h => by
        have := HM.out
        unfold allMay at this ⊢
        rw [List.range_succ, List.all_append, this, Bool.true_and]
        simpa using h⟩
      obtain ⟨Z, hZ⟩ : ∃ Z, nbits 1 2 ++ (nbits O 4 ++ partsX 5 n Od ps es l i) = Z := ⟨_, rfl⟩
      have hZl : Z.length + 20000000 + 16777300 * n < 70000000000000 := by
        rw [← hZ, List.length_append, List.length_append, nbits_length, nbits_length]
        omega
      have HNX : Aside0 (∀ Y, Y = Z ++ (headX 5 (rd ps (i : Int)) (rd es (i : Int)) ++ bodyX (rd ps (i : Int)) (rd es (i : Int)) (partL l n Od i)) → Y = nbits 1 2 ++ (nbits O 4 ++ partsX 5 n Od ps es l (i + 1))) := ⟨fun Y hY => by rw [hY, ← hZ, HX1.out]; simp⟩
      rw [hZ] at HS
      have hlp := partL_length l n Od i
      have k2 : rd ps (i : Int) < 31 := by simp at k1; omega
      clear hX HX1 hZ hpi k1 hXl
      obtain ⟨f, hf⟩ : ∃ f, i * n - Od = f := ⟨_, rfl⟩
      obtain ⟨t, ht⟩ : ∃ t, (i + 1) * n - Od = t := ⟨_, rfl⟩
      rw [hf, ht] at hlen HPi
      rw [hf] at HRD HRL
      have hf6 : f ≤ 65535 := by omega
      have ht6 : t ≤ 65535 := by omega
      generalize rd ps (i : Int) = kk at hxP k0 k2 ek HNX HBADi HMN HRDS
      generalize rd es (i : Int) = ee at hxE e0 e1 ek HNX HBADi HMN HRDS
      have HPL : Aside0 ((partL l n Od i).length ≤ n) := ⟨hlp⟩
      generalize hpl2 : partL l n Od i = pl at hlen HPI HRD HRL HNX HBADi HMN HPL
      clear hpl2 hlp hf ht hnx hnx2
      obtain ⟨K, rfl⟩ := Int.eq_ofNat_of_zero_le k0
      have hK30 : K < 31 := by omega
      have HPC := Aside0.mk (HPi.out wr HBW.out)
      have HA1 := Aside0.mk hcA
      clear hcP hcE hcA hxw hbw HBAD HPT HPi
      obtain ⟨j9, j0, j1, j2, j3, j4, ju⟩ := HJ.out
      go_wp2_with fail
      clear j9 j0 j1 j2 j3 j4 ju
      with_reducible refine HPC.out.mono ?_
      rintro e w6 ⟨rfl, hn6'⟩
      have hx6 := HS.out.below hn6'
      have hbel6 : Below b1 w2 w6 := HB.out.trans (hn6'.mono (by have := HS.out.lt; omega))
      have HS6 := Aside0.mk hx6
      have HB6 := Aside0.mk hbel6
      clear hn6' hx6 hbel6 hbox d0 d1 d2 d3 HS HB HPC HXW HBW hxE hxP HA1
      obtain ⟨rP, rE, d0, d1, d2, d3⟩ := HRDS.out w6 HB6.out
      by_cases he : ee < 0
      · have hhd : headX 5 (K : Int) ee = nbits K 5 := by unfold headX; rw [if_pos he, Int.toNat_natCast]
        rw [hhd] at HNX
        clear hhd ek
        have HP1 := Aside0.mk (XPut_i K 5 (nbits K 5) rfl (by omega) (by omega) (by omega) (by rw [show (2 : Int) ^ (5 : Int).toNat = 31 + 1 by decide]; omega) _ b1 b1 y w6 HS6.out (by omega))
        go_wp2_with fail
        with_reducible refine HP1.out.mono ?_
        rintro e w7 ⟨rfl, v7, hx7, hm7⟩
        have HB7 := Aside0.mk (HB6.out.trans hm7.below)
        have HX7 := Aside0.mk hx7
        clear hx7 hm7 HB6 HS6 HP1 rP rE d0 d1 d2 d3
        go_wp2
        go_loopw [18] (fun jv wr => ∃ (k j : Nat) (y : Value), Aside0 (f + j = k) ∧ j ≤ pl.length ∧ jv = .int .i64 k ∧ Aside0 (mayF (pl.take j) K ee = true) ∧ Aside0 (XW wr b1 b1 y (Z ++ (nbits K 5 ++ bodyX K ee (pl.take j)))) ∧ Aside0 (Below b1 w2 wr)) (fun jv _ => f + pl.length - (intOf jv).toNat)
        case atStart => exact ⟨f, 0, v7, ⟨rfl⟩, by omega, rfl, ⟨rfl⟩, ⟨by simpa [bodyX] using HX7.out⟩, HB7⟩
        case round =>
          clear HX7 HB7
          obtain ⟨k, j, y, HFK, hj, rfl, HMJ, HS, HB⟩ := hrel
          have hfk := HFK.out
          by_cases hjl : j < pl.length
          · have j0 : (0 : Int) ≤ (k : Int) := by omega
            have j1 : (k : Int) < (t : Int) := by omega
            obtain ⟨adL, rfl, hx⟩ := HRL.out wr HB.out j hjl
            rw [hfk] at hx
            have k6 : k ≤ 65535 := by omega
            have j2 : (k : Int) < (l.length : Int) := by have := (HRD.out j hjl).2; omega
            obtain ⟨x0, x1⟩ := HPI.out _ (rd_mem pl j hjl)
            have hbl := bodyX_length K ee (pl.take j) HMJ.out (by omega) (by omega) e1
            have htl : (pl.take j).length = j := by rw [List.length_take]; omega
            have hsn := bodyX_snoc K ee pl j hjl
            have hpn9 := HPL.out
            have hLX : (Z ++ (nbits K 5 ++ bodyX K ee (pl.take j))).length + 16777400 < 140737488355328 := by rw [List.length_append, List.length_append, nbits_length]; omega
            obtain ⟨rP, rE, d0, d1, d2, d3⟩ := HRDS.out wr HB.out
            have HSd := Aside0.mk (HS.out.below (below_drew (Below.refl _ _)))
            have HBd : Aside0 (Below b1 w2 wr.drew) := ⟨below_drew HB.out⟩
            have hcx : codeX K ee (rd pl (j : Int)) = riceB (rd pl (j : Int)) K := by unfold codeX; rw [if_pos he, Int.toNat_natCast]
            have hmo : mayOk K ee (rd pl (j : Int)) = decide (riceP (rd pl (j : Int)) (K : Nat)) := by
              unfold mayOk riceP
              rw [if_pos he]
              exact decide_eq_decide.2 ⟨fun h => ⟨by omega, by omega, h⟩, fun h => h.2.2⟩
            have HMK : Aside0 (mayOk K ee (rd pl (j : Int)) = true → mayF (pl.take (j + 1)) K ee = true) := ⟨fun h => mayF_snoc pl j K ee hjl HMJ.out h⟩
            have HBDj : Aside0 (mayOk K ee (rd pl (j : Int)) = false → X = false) := ⟨fun h => HBADi.out j hjl h⟩
            have HNB : Aside0 (∀ Y, Y = (Z ++ (nbits K 5 ++ bodyX K ee (pl.take j))) ++ riceB (rd pl (j : Int)) K → Y = Z ++ (nbits K 5 ++ bodyX K ee (pl.take (j + 1)))) := ⟨fun Y hY => by rw [hY, hsn, hcx]; simp⟩
            rw [hmo] at HMK HBDj
            clear hbl htl hsn hcx hpn9 hmo HS HB hfk
            generalize rd pl (j : Int) = x at hx x0 x1 HMK HBDj HNB
            by_cases hri : riceP x K
            · have HMF := Aside0.mk (HMK.out (decide_eq_true hri))
              have HR1 := Aside0.mk (XRice_yes x K (by omega) (by omega) hri _ b1 b1 y wr.drew HSd.out hLX)
              clear hri HMK HBDj hLX
              go_wp2
              go_still_tail 10, (by kernel_rfl)
              change wpList _ _ _ _ _ wr.drew
              clear rP rE d0 d1 d2 d3 hx
              generalize wr.drew = wz at HSd HBd HR1 ⊢
              go_wp2_with fail
              with_reducible refine HR1.out.mono ?_
              rintro e w8 ⟨rfl, v8, hx8, hm8⟩
              rw [HNB.out _ rfl] at hx8
              have HB8 := Aside0.mk (HBd.out.trans hm8.below)
              have HX8 := Aside0.mk hx8
              clear hx8 hm8 HBd HSd HR1 HNB
              go_wp2
              go_roundw
              case rel => exact ⟨k + 1, j + 1, v8, ⟨by have := HFK.out; omega⟩, by omega, by go_num, HMF, HX8, HB8⟩
              case measure => have := HFK.out; simp [intOf]; omega
            · have HXF := Aside0.mk (HBDj.out (decide_eq_false hri))
              have HR1 := Aside0.mk (XRice_no x K (by omega) (by omega) hri b1 wr.drew)
              clear hri HMK HBDj hLX HNB
              go_wp2
              go_still_tail 10, (by kernel_rfl)
              change wpList _ _ _ _ _ wr.drew
              clear rP rE d0 d1 d2 d3 hx
              generalize wr.drew = wz at HSd HBd HR1 ⊢
              go_wp2_with fail
              with_reducible refine HR1.out.mono ?_
              rintro e w8 ⟨rfl, hd8⟩
              have HB8 : Aside0 (Below b1 w2 w8) := ⟨HBd.out.trans (hd8.below.mono (by have := HSd.out.lt; omega))⟩
              clear hd8 HBd HSd HR1
              go_wp2
              go_ret
              obtain ⟨hbox, hbw, hcP, hcE, hcA, hxw⟩ := HCL.out w8 HB8.out
              obtain ⟨rfl, rfl⟩ := HNO.out HXF.out
              exact ⟨rfl, v, hxw, (Moved.refl B g w v).new hbw (by rw [HBZ.out]; exact hBw)⟩
          · obtain rfl : j = pl.length := by omega
            have hs8 := HS.out
            rw [List.take_length, HNX.out _ rfl] at hs8
            have HS8 := Aside0.mk hs8
            have hm8 := HMJ.out
            rw [List.take_length] at hm8
            have HM8 := Aside0.mk (HMN.out hm8)
            have j1 : ¬ (k : Int) < (t : Int) := by omega
            clear hs8 HS hm8 hfk
            go_wp2
            go_roundw
            case rel => exact ⟨i + 1, y, by omega, by go_num, HM8, HS8, HB⟩
            case measure => simp [intOf]; omega
      · obtain ⟨E, rfl⟩ := Int.eq_ofNat_of_zero_le (show 0 ≤ ee by omega)
        have hhd : headX 5 (K : Int) (E : Int) = nbits 31 5 ++ nbits E 5 := by unfold headX; rw [if_neg he, Int.toNat_natCast]
        rw [hhd] at HNX
        clear hhd
        have HP1 := Aside0.mk (XPut_i 31 5 (nbits 31 5) rfl (by omega) (by omega) (by omega) (by decide) _ b1 b1 y w6 HS6.out (by omega))
        go_wp2_with fail
        with_reducible refine HP1.out.mono ?_
        rintro e w7 ⟨rfl, v7, hx7, hm7⟩
        have HB7 := Aside0.mk (HB6.out.trans hm7.below)
        have HX7 := Aside0.mk hx7
        clear hx7 hm7 HB6 HS6 HP1 rP rE d0 d1 d2 d3
        obtain ⟨rP, rE, d0, d1, d2, d3⟩ := HRDS.out w7 HB7.out
        have HP1 := Aside0.mk (XPut_i E 5 (nbits E 5) rfl (by omega) (by omega) (by omega) (by rw [show (2 : Int) ^ (5 : Int).toNat = 32 by decide]; omega) _ b1 b1 v7 w7 HX7.out (by rw [List.length_append, nbits_length]; omega))
        go_wp2_with fail
        with_reducible refine HP1.out.mono ?_
        rintro e w8 ⟨rfl, v9, hx8, hm8⟩
        have HB9 := Aside0.mk (HB7.out.trans hm8.below)
        rw [List.append_assoc] at hx8
        have HX9 := Aside0.mk hx8
        clear hx8 hm8 HB7 HX7 HP1 rP rE d0 d1 d2 d3
        by_cases he0 : 0 < (E : Int)
        · skip
          go_wp2
          go_loopw [18] (fun jv wr => ∃ (k j : Nat) (y : Value), Aside0 (f + j = k) ∧ j ≤ pl.length ∧ jv = .int .i64 k ∧ Aside0 (mayF (pl.take j) K E = true) ∧ Aside0 (XW wr b1 b1 y (Z ++ ((nbits 31 5 ++ nbits E 5) ++ bodyX K E (pl.take j)))) ∧ Aside0 (Below b1 w2 wr)) (fun jv _ => f + pl.length - (intOf jv).toNat)
          case atStart => exact ⟨f, 0, v9, ⟨rfl⟩, by omega, rfl, ⟨rfl⟩, ⟨by simpa [bodyX] using HX9.out⟩, HB9⟩
          case round =>
            clear HX9 HB9
            obtain ⟨k, j, y, HFK, hj, rfl, HMJ, HS, HB⟩ := hrel
            have hfk := HFK.out
            by_cases hjl : j < pl.length
            · have j0 : (0 : Int) ≤ (k : Int) := by omega
              have j1 : (k : Int) < (t : Int) := by omega
              obtain ⟨adL, rfl, hx⟩ := HRL.out wr HB.out j hjl
              rw [hfk] at hx
              have k6 : k ≤ 65535 := by omega
              have j2 : (k : Int) < (l.length : Int) := by have := (HRD.out j hjl).2; omega
              obtain ⟨x0, x1⟩ := HPI.out _ (rd_mem pl j hjl)
              have hbl := bodyX_length K E (pl.take j) HMJ.out (by omega) (by omega) e1
              have htl : (pl.take j).length = j := by rw [List.length_take]; omega
              have hsn := bodyX_snoc K E pl j hjl
              have hpn9 := HPL.out
              have hLX : (Z ++ ((nbits 31 5 ++ nbits E 5) ++ bodyX K E (pl.take j))).length + 16777400 < 140737488355328 := by rw [List.length_append, List.length_append, List.length_append, nbits_length, nbits_length]; omega
              obtain ⟨rP, rE, d0, d1, d2, d3⟩ := HRDS.out wr HB.out
              have HSd := HS
              have HBd := HB
              have hcx : codeX K E (rd pl (j : Int)) = nbits (wordN (rd pl (j : Int))) E := by unfold codeX; rw [if_neg (show ¬ (E : Int) < 0 by omega), if_pos he0, Int.toNat_natCast]
              have hmo : mayOk K E (rd pl (j : Int)) = decide (fitsP (rd pl (j : Int)) (E : Nat)) := by
                unfold mayOk
                rw [if_neg (show ¬ (E : Int) < 0 by omega), if_pos he0]
              have HMK : Aside0 (mayOk K E (rd pl (j : Int)) = true → mayF (pl.take (j + 1)) K E = true) := ⟨fun h => mayF_snoc pl j K E hjl HMJ.out h⟩
              have HBDj : Aside0 (mayOk K E (rd pl (j : Int)) = false → X = false) := ⟨fun h => HBADi.out j hjl h⟩
              have HNB : Aside0 (∀ Y, Y = (Z ++ ((nbits 31 5 ++ nbits E 5) ++ bodyX K E (pl.take j))) ++ nbits (wordN (rd pl (j : Int))) E → Y = Z ++ ((nbits 31 5 ++ nbits E 5) ++ bodyX K E (pl.take (j + 1)))) := ⟨fun Y hY => by rw [hY, hsn, hcx]; simp⟩
              rw [hmo] at HMK HBDj
              clear hbl htl hsn hcx hpn9 hmo HS HB hfk
              generalize rd pl (j : Int) = x at hx x0 x1 HMK HBDj HNB
              by_cases hri : fitsP x E
              · have HMF := Aside0.mk (HMK.out (decide_eq_true hri))
                have HR1 := Aside0.mk (XSigned_yes x E (by omega) (by omega) hri _ b1 b1 y wr HSd.out (by omega))
                clear hri HMK HBDj hLX
                go_wp2_with fail
                clear rP rE d0 d1 d2 d3 hx
                with_reducible refine HR1.out.mono ?_
                rintro e w8 ⟨rfl, v8, hx8, hm8⟩
                rw [HNB.out _ rfl] at hx8
                have HB8 := Aside0.mk (HBd.out.trans hm8.below)
                have HX8 := Aside0.mk hx8
                clear hx8 hm8 HBd HSd HR1 HNB
                go_wp2
                go_roundw
                case rel => exact ⟨k + 1, j + 1, v8, ⟨by have := HFK.out; omega⟩, by omega, by go_num, HMF, HX8, HB8⟩
                case measure => have := HFK.out; simp [intOf]; omega
              · have HXF := Aside0.mk (HBDj.out (decide_eq_false hri))
                have HR1 := Aside0.mk (XSigned_no x E (by omega) (by omega) hri b1 wr)
                clear hri HMK HBDj hLX HNB
                go_wp2_with fail
                clear rP rE d0 d1 d2 d3 hx
                with_reducible refine HR1.out.mono ?_
                rintro e w8 ⟨rfl, hd8⟩
                have HB8 : Aside0 (Below b1 w2 w8) := ⟨HBd.out.trans (hd8.below.mono (by have := HSd.out.lt; omega))⟩
                clear hd8 HBd HSd HR1
                go_wp2
                go_ret
                obtain ⟨hbox, hbw, hcP, hcE, hcA, hxw⟩ := HCL.out w8 HB8.out
                obtain ⟨rfl, rfl⟩ := HNO.out HXF.out
                exact ⟨rfl, v, hxw, (Moved.refl B g w v).new hbw (by rw [HBZ.out]; exact hBw)⟩
            · obtain rfl : j = pl.length := by omega
              have hs8 := HS.out
              rw [List.take_length, HNX.out _ rfl] at hs8
              have HS8 := Aside0.mk hs8
              have hm8 := HMJ.out
              rw [List.take_length] at hm8
              have HM8 := Aside0.mk (HMN.out hm8)
              have j1 : ¬ (k : Int) < (t : Int) := by omega
              clear hs8 HS hm8 hfk
              go_wp2
              go_roundw
              case rel => exact ⟨i + 1, y, by omega, by go_num, HM8, HS8, HB⟩
              case measure => simp [intOf]; omega
        · obtain rfl : E = 0 := by omega
          clear he he0
          go_wp2
          go_loopw [18] (fun jv wr => ∃ (k j : Nat), Aside0 (f + j = k) ∧ j ≤ pl.length ∧ jv = .int .i64 k ∧ Aside0 (mayF (pl.take j) K 0 = true) ∧ Aside0 (XW wr b1 b1 v9 (Z ++ (nbits 31 5 ++ nbits 0 5))) ∧ Aside0 (Below b1 w2 wr)) (fun jv _ => f + pl.length - (intOf jv).toNat)
          case atStart => exact ⟨f, 0, ⟨rfl⟩, by omega, rfl, ⟨rfl⟩, HX9, HB9⟩
          case round =>
            clear HX9 HB9
            obtain ⟨k, j, HFK, hj, rfl, HMJ, HS, HB⟩ := hrel
            have hfk := HFK.out
            by_cases hjl : j < pl.length
            · have j0 : (0 : Int) ≤ (k : Int) := by omega
              have j1 : (k : Int) < (t : Int) := by omega
              obtain ⟨adL, rfl, hx⟩ := HRL.out wr HB.out j hjl
              rw [hfk] at hx
              have k6 : k ≤ 65535 := by omega
              have j2 : (k : Int) < (l.length : Int) := by have := (HRD.out j hjl).2; omega
              have hmo : mayOk K ((0 : Nat) : Int) (rd pl (j : Int)) = decide (rd pl (j : Int) = 0) := by
                unfold mayOk
                rw [if_neg (by decide), if_neg (by decide)]
              have HMK : Aside0 (mayOk K ((0 : Nat) : Int) (rd pl (j : Int)) = true → mayF (pl.take (j + 1)) K 0 = true) := ⟨fun h => mayF_snoc pl j K 0 hjl HMJ.out h⟩
              have HBDj : Aside0 (mayOk K ((0 : Nat) : Int) (rd pl (j : Int)) = false → X = false) := ⟨fun h => HBADi.out j hjl h⟩
              rw [hmo] at HMK HBDj
              clear hmo hfk
              generalize rd pl (j : Int) = x at hx HMK HBDj
              by_cases hri : x = 0
              · have HMF := Aside0.mk (HMK.out (decide_eq_true hri))
                subst hri
                clear HMK HBDj
                go_wp2
                go_roundw
                case rel => exact ⟨k + 1, j + 1, ⟨by have := HFK.out; omega⟩, by omega, by go_num, HMF, HS, HB⟩
                case measure => have := HFK.out; simp [intOf]; omega
              · have HXF := Aside0.mk (HBDj.out (decide_eq_false hri))
                have hb0 : (x == 0) = false := beq_eq_false_iff_ne.mpr hri
                have hb1 : (x != 0) = true := bne_iff_ne.mpr hri
                clear hri HMK HBDj
                go_wp2
                go_ret
                obtain ⟨hbox, hbw, hcP, hcE, hcA, hxw⟩ := HCL.out wr HB.out
                obtain ⟨rfl, rfl⟩ := HNO.out HXF.out
                exact ⟨rfl, v, hxw, (Moved.refl B g w v).new hbw (by rw [HBZ.out]; exact hBw)⟩
            · obtain rfl : j = pl.length := by omega
              have hs8 := HS.out
              rw [HNX.out (Z ++ (nbits 31 5 ++ nbits 0 5)) (by
                have : bodyX K ((0 : Nat) : Int) pl = [] := by
                  unfold bodyX codeX
                  simp
                rw [this]
                simp)] at hs8
              have HS8 := Aside0.mk hs8
              have hm8 := HMJ.out
              rw [List.take_length] at hm8
              have HM8 := Aside0.mk (HMN.out hm8)
              have j1 : ¬ (k : Int) < (t : Int) := by omega
              clear hs8 HS hm8 hfk
              go_wp2
              go_roundw
              case rel => exact ⟨i + 1, v9, by omega, by go_num, HM8, HS8, HB⟩
              case measure => simp [intOf]; omega
    · obtain rfl : i = ps.length := by omega
      have hxt : X = true := by rw [← HX.out]; exact HM.out
      obtain ⟨hvA, hvc, hvE⟩ := Kd.R_slice hxw.2.1
      obtain ⟨A9, c9, e9, hl9, hC9⟩ := Kd.R_reads HS.out.2.1
      have hfit := HXS.out ps.length (Nat.le_refl _) HM.out
      have hnn := HNN.out ps.length (Nat.le_refl _)
      have hYl : (nbits 1 2 ++ (nbits O 4 ++ partsX 5 n Od ps es l ps.length)).length ≤ 1100000000000 := by
        rw [List.length_append, List.length_append, nbits_length, nbits_length]
        omega
      have c0 : wr.cell? ⟨g, 0, none⟩ = some v := blk_cell hxw.1 0
      have f0 : wr.frozen? ⟨g, 0, none⟩ = false := blk_frozen hxw.1 0
      have HYS := Aside0.mk (HYES.out hxt)
      have HSY := HS
      clear HYES HNO HBAD HM
      generalize nbits 1 2 ++ (nbits O 4 ++ partsX 5 n Od ps es l ps.length) = Y at HYS HSY hl9 hC9 hYl e9
      have cx : wr.cell? ⟨b1, 0, none⟩ = some y := blk_cell HSY.out.1 0
      subst e9
      rw [ones_length] at hC9 cx
      have HC9 := Aside0.mk hC9
      have HL9 : Aside0 ((ones bs).length + (ones Y).length ≤ 1200000000000) := ⟨by rw [ones_length, ones_length]; omega⟩
      have HOY := Aside0.mk (ones_length Y)
      have hi2 : ¬ (ps.length : Int) < (ps.length : Int) := Int.lt_irrefl _
      have hBb : B ≤ wr.heap.size := by have := hxw.lt; have := hxw.2.2; omega
      have HBB2 := Aside0.mk (hbw.mono (show B ≤ w.heap.size by rw [HBZ.out]; exact hBw))
      have HM9 := Aside0.mk ((Moved.refl B g w v).new hbw (by rw [HBZ.out]; exact hBw))
      clear hxt hfit hnn hYl hC9 hl9 hbw HS hcP hcE hcA hxw d0 d2 d3 hbox
      subst hvE
      obtain ⟨j9, j0, j1, j2, j3, j4, ju⟩ := HJ.out
      go_upto_region 33 with fail
      clear j9 j0 j1 j2 j3 j4 ju
      have HWd := HXW.out.below (below_drew (Below.refl wr.heap.size wr))
      have HCd := Kd.C_below HC9.out (below_drew (Below.refl wr.heap.size wr))
      have HBd : Below B w wr.drew := below_drew HBB2.out
      have HMd := HM9.out.drew
      have hszd : wr.heap.size = wr.drew.heap.size := rfl
      rw [hszd] at hBb
      clear HXW HC9 HBB2 HM9 HBW HB HSY hszd
      go_wp2
      refine start_ (n := 13) (S := fun w' => w'.cell? ⟨g, 0, none⟩ = some (.slice hvA (ones bs).length hvc) ∧ w'.cell? ⟨b1, 0, none⟩ = some (.slice A9 Y.length c9)) (ds := [9, 12]) #[false, false, false, false, false, false, false, false, false, false, false, false, false] (by kernel_rfl) rfl rfl ⟨c0, cx⟩ (fun hHeld => ?_)
      refine pure_ (i := 0) (N := some 131) (v := ?_) (a' := ?_) #[true, false, false, false, false, false, false, false, false, false, false, false, false] rfl rfl (by kernel_rfl) (fun _ _ _ h => h) (Or.inl ⟨by rfl, ?_⟩) ?_ ?_
      rotate_left
      · intro w'
        go_simp
        with_reducible rfl
      rotate_left
      · simp only [Act.put, List.setIfInBounds_toArray, List.set_cons_zero, List.set_cons_succ, i64_w, i32_w]
        rfl
      refine pure_ (i := 1) (N := some 132) (v := ?_) (a' := ?_) #[true, true, false, false, false, false, false, false, false, false, false, false, false] rfl rfl (by kernel_rfl) (fun _ _ _ h => h) (Or.inl ⟨by rfl, ?_⟩) ?_ ?_
      rotate_left
      · intro w'
        go_simp
        with_reducible rfl
      rotate_left
      · simp only [Act.put, List.setIfInBounds_toArray, List.set_cons_zero, List.set_cons_succ, i64_w, i32_w]
        rfl
      refine pure_ (i := 2) (N := some 133) (v := ?_) (a' := ?_) #[true, true, true, false, false, false, false, false, false, false, false, false, false] rfl rfl (by kernel_rfl) (fun _ _ _ h => h) (Or.inl ⟨by rfl, ?_⟩) ?_ ?_
      rotate_left
      · intro w'
        go_simp
        with_reducible rfl
      rotate_left
      · simp only [Act.put, List.setIfInBounds_toArray, List.set_cons_zero, List.set_cons_succ, i64_w, i32_w]
        rfl
      refine pure_ (i := 3) (N := some 134) (v := ?_) (a' := ?_) #[true, true, true, true, false, false, false, false, false, false, false, false, false] rfl rfl (by kernel_rfl) (fun _ _ _ h => h) (Or.inl ⟨by rfl, ?_⟩) ?_ ?_
      rotate_left
      · intro w'
        go_simp
        with_reducible rfl
      rotate_left
      · simp only [Act.put, List.setIfInBounds_toArray, List.set_cons_zero, List.set_cons_succ, i64_w, i32_w]
        rfl
      refine pure_ (i := 5) (N := some 136) (v := ?_) (a' := ?_) #[true, true, true, true, false, true, false, false, false, false, false, false, false] rfl rfl (by kernel_rfl) (fun _ _ _ h => h) (Or.inl ⟨by rfl, ?_⟩) ?_ ?_
      rotate_left
      · intro w'
        go_simp
        with_reducible rfl
      rotate_left
      · simp only [Act.put, List.setIfInBounds_toArray, List.set_cons_zero, List.set_cons_succ, i64_w, i32_w]
        rfl
      refine pure_ (i := 6) (N := some 137) (v := ?_) (a' := ?_) #[true, true, true, true, false, true, true, false, false, false, false, false, false] rfl rfl (by kernel_rfl) (fun _ _ _ h => h) (Or.inl ⟨by rfl, ?_⟩) ?_ ?_
      rotate_left
      · intro w'
        go_simp
        with_reducible rfl
      rotate_left
      · simp only [Act.put, List.setIfInBounds_toArray, List.set_cons_zero, List.set_cons_succ, i64_w, i32_w]
        rfl
      refine pure_ (i := 7) (N := some 138) (v := ?_) (a' := ?_) #[true, true, true, true, false, true, true, true, false, false, false, false, false] rfl rfl (by kernel_rfl) (fun _ _ _ h => h) (Or.inl ⟨by rfl, ?_⟩) ?_ ?_
      rotate_left
      · intro w'
        go_simp
        with_reducible rfl
      rotate_left
      · simp only [Act.put, List.setIfInBounds_toArray, List.set_cons_zero, List.set_cons_succ, i64_w, i32_w]
        rfl
      refine take_ (i := 4) (N := some 135) (v := ?_) (a' := ?_) #[true, true, true, true, true, true, true, true, false, false, false, false, false] rfl rfl (by kernel_rfl) (fun _ _ _ h => h) (Or.inl ⟨by rfl, ?_⟩) hHeld ?_ ?_
      rotate_left
      · rintro w' ⟨s0, s1⟩
        go_simp
        with_reducible rfl
      rotate_left
      · simp only [Act.put, List.setIfInBounds_toArray, List.set_cons_zero, List.set_cons_succ, i64_w, i32_w]
        rfl
      refine take_ (i := 8) (N := some 139) (v := ?_) (a' := ?_) #[true, true, true, true, true, true, true, true, true, false, false, false, false] rfl rfl (by kernel_rfl) (fun _ _ _ h => h) (Or.inl ⟨by rfl, ?_⟩) hHeld ?_ ?_
      rotate_left
      · rintro w' ⟨s0, s1⟩
        go_simp
        with_reducible rfl
      rotate_left
      · simp only [Act.put, List.setIfInBounds_toArray, List.set_cons_zero, List.set_cons_succ, i64_w, i32_w]
        rfl
      refine last_ (i := 9) (N := some 140) #[true, true, true, true, true, true, true, true, true, true, false, false, false] rfl rfl (by kernel_rfl) (by decide) (fun K hK => ?_)
      refine app_bytelist_step (C := B) (v := .slice hvA (ones bs).length hvc) (xs := ones bs) (ys := ones Y) (A := A9) (c := c9) (.tmp 135) (.tmp 139) ?_ ?_ ?_ ?_ HWd.2.1 (by rw [HOY.out]; exact HCd) hBb HL9.out ?_
      · rfl
      · rfl
      · rfl
      · rw [HOY.out]; rfl
      intro v1 w1 hO1 hB1 hG1 hV1
      have hb1 := XW.grown HWd hG1
      have hm1 := Moved.app HMd hG1 (HBd.trans hB1) hV1
      obtain ⟨A1, k1, e1⟩ := Kd.R_slice hO1
      generalize (ones bs ++ ones Y).length = n1 at e1
      subst e1
      have c11 : w1.cell? ⟨g, 0, none⟩ = some (.slice hvA (ones bs).length hvc) := blk_cell hb1 0
      have f11 := blk_frozen hb1 0
      refine hK.out _ _ ?_
      clear hK K
      refine norm_ (a' := ?_) ?_ ?_
      rotate_left
      · show Act.put _ (some 140) _ = _
        simp only [Act.put, List.setIfInBounds_toArray, List.set_cons_zero, List.set_cons_succ, i64_w, i32_w]
        rfl
      refine pure_ (i := 10) (N := some 141) (v := ?_) (a' := ?_) #[true, true, true, true, true, true, true, true, true, true, true, false, false] rfl rfl (by kernel_rfl) (fun _ _ _ h => h) (Or.inl ⟨by rfl, ?_⟩) ?_ ?_
      rotate_left
      · intro w'
        go_simp
        with_reducible rfl
      rotate_left
      · simp only [Act.put, List.setIfInBounds_toArray, List.set_cons_zero, List.set_cons_succ, i64_w, i32_w]
        rfl
      refine pure_ (i := 11) (N := some 142) (v := ?_) (a' := ?_) #[true, true, true, true, true, true, true, true, true, true, true, true, false] rfl rfl (by kernel_rfl) (fun _ _ _ h => h) (Or.inl ⟨by rfl, ?_⟩) ?_ ?_
      rotate_left
      · intro w'
        go_simp
        with_reducible rfl
      rotate_left
      · simp only [Act.put, List.setIfInBounds_toArray, List.set_cons_zero, List.set_cons_succ, i64_w, i32_w]
        rfl
      refine last_ (i := 12) (N := none) #[true, true, true, true, true, true, true, true, true, true, true, true, true] rfl rfl (by kernel_rfl) (by decide) (fun K hK => ?_)
      refine skip_ (w1 := ?_) (by rfl) rfl ?_ ?_
      rotate_left
      · go_simp
        rfl
      refine hK.out _ _ ?_
      clear hK K
      refine done_ (by kernel_rfl) ?_
      go_wp2
      go_ret
      obtain ⟨rfl, rfl⟩ := HYS.out
      exact ⟨rfl, _, ⟨blk_put hb1 0 _ rfl, by rw [ones_append]; exact hO1.set hb1 (by decide) 0 _, HWd.2.2⟩, hm1.set HWd.2.2 0 _⟩
end Go.Proofs.Ytfhekkoibmlmpaa.Hand

/- Contracts of layer 8, proved by hand: the reference's Encode, whole. -/
namespace Go.Proofs.Ytfhekkoibmlmpaa.Hand
open Go.RowKit Go.Proofs.Ytfhekkoibmlmpaa.Q Go.Proofs.YtfhekkoibmlmpaaW.PrintWords Go.Proofs.YtfhekkoibmlmpaaW.PrintLast Go.Proofs.YtfhekkoibmlmpaaW.PrintMore
set_option linter.unusedVariables false
set_option linter.unusedSimpArgs false

theorem REncode_any (m o block order : Int) (AP AE A : Option Addr) (cP cE c : Nat) (ps es l : List Int) (bs : List Bool) (B g : Nat) (v : Value) (w : World) (hin : ∀ x ∈ l, -4000 ≤ x ∧ x ≤ 4000)
    (hcP : ps.length ≤ cP) (hcE : es.length ≤ cE) (hc : l.length ≤ c) (hW : XW w B g v bs) (hP : Kd.C (Kd.int .i64) w AP ps.length ps) (hE : Kd.C (Kd.int .i64) w AE es.length es) (hA : Kd.C (Kd.int .i64) w A l.length l) (hbs : bs.length ≤ 1000) :
    Calls Try.prog 14 #[.pointer (some ⟨g, 0, none⟩), .agg #[.int .i64 m, .int .i64 o, .slice AP ps.length cP, .slice AE es.length cE], .int .i64 block, .int .i64 order, .slice A l.length c] w
      fun e w' => e = .returned (.int .i64 (if canE m o ps es block order l then 0 else 60)) ∧ ∃ v', XW w' B g v' (if canE m o ps es block order l then bs ++ bitsE m o ps es block order l else bs) ∧ Moved B g w v w' v' := by
  have hBw : B ≤ w.heap.size := by have := hW.lt; have := hW.2.2; omega
  have hno : ¬ canE m o ps es block order l → (Calls Try.prog 14 #[.pointer (some ⟨g, 0, none⟩), .agg #[.int .i64 m, .int .i64 o, .slice AP ps.length cP, .slice AE es.length cE], .int .i64 block, .int .i64 order, .slice A l.length c] w fun e w' => e = .returned (.int .i64 60) ∧ Below w.heap.size w w') →
      Calls Try.prog 14 #[.pointer (some ⟨g, 0, none⟩), .agg #[.int .i64 m, .int .i64 o, .slice AP ps.length cP, .slice AE es.length cE], .int .i64 block, .int .i64 order, .slice A l.length c] w
      fun e w' => e = .returned (.int .i64 (if canE m o ps es block order l then 0 else 60)) ∧ ∃ v', XW w' B g v' (if canE m o ps es block order l then bs ++ bitsE m o ps es block order l else bs) ∧ Moved B g w v w' v' := fun hn hcall => by
    rw [if_neg hn, if_neg hn]
    exact hcall.mono fun e w' ⟨h1, h2⟩ => ⟨h1, v, hW.below h2, (Moved.refl B g w v).new h2 hBw⟩
  by_cases hck : checkP m o ps es block order
  · by_cases hlen : (l.length : Int) = block - order
    · obtain ⟨O, Bk, Od, n, rfl, rfl, rfl, hO, hB0, hB1, hOd, hdiv, hdn, hn, hm⟩ := shape_nat hck.1
      have hps : ps.length = 2 ^ O := by have := hck.2.1; rwa [Int.toNat_natCast] at this
      have hes : es.length = 2 ^ O := by have := hck.2.2.1; rwa [Int.toNat_natCast] at this
      have hl : l.length + Od = Bk := by omega
      have hcan : canE m O ps es Bk Od l ↔ allMay n Od ps es l ps.length = true := by
        unfold canE
        rw [hn, Int.toNat_natCast]
        exact ⟨fun h => h.2.2, fun h => ⟨hck, hlen, h⟩⟩
      have hbits : bitsE m O ps es Bk Od l = nbits m.toNat 2 ++ (nbits O 4 ++ partsX (4 + m.toNat) n Od ps es l ps.length) := by
        unfold bitsE
        rw [hn, Int.toNat_natCast, Int.toNat_natCast]
      have e1 : (if canE m O ps es Bk Od l then (0 : Int) else 60) = if allMay n Od ps es l ps.length = true then 0 else 60 := by simp only [hcan]
      have e2 : (if canE m O ps es Bk Od l then bs ++ bitsE m O ps es Bk Od l else bs) = if allMay n Od ps es l ps.length = true then bs ++ bitsE m O ps es Bk Od l else bs := by simp only [hcan]
      rw [e1, e2, hbits]
      rcases hm with rfl | rfl
      · exact REncode_go0 O n Bk Od AP AE A cP cE c ps es l bs B g v w hO hB1 hOd hdiv hdn hl hps hes hck.2.2.2 hin hcP hcE hc hW hP hE hA hck hbs
      · exact REncode_go1 O n Bk Od AP AE A cP cE c ps es l bs B g v w hO hB1 hOd hdiv hdn hl hps hes hck.2.2.2 hin hcP hcE hc hW hP hE hA hck hbs
    · exact hno (fun h => hlen h.2.1) (REncode_no m o AP AE A cP cE c ps es l block order g w hP hcP hE hcE (.inr ⟨hlen, hck⟩))
  · exact hno (fun h => hck h.1) (REncode_no m o AP AE A cP cE c ps es l block order g w hP hcP hE hcE (.inl hck))
/-- How many bits are written. -/
theorem fold_short (x : Int) (h : -4000 ≤ x ∧ x ≤ 4000) : foldN x ≤ 8000 := by
  unfold foldN
  split <;> omega
theorem codeX_short (k e x : Int) (h : -4000 ≤ x ∧ x ≤ 4000) (k1 : k ≤ 30) (e1 : e ≤ 31) : (codeX k e x).length ≤ 8040 := by
  unfold codeX
  by_cases he : e < 0
  · rw [if_pos he]
    have := fold_short x h
    have h2 : foldN x / 2 ^ k.toNat ≤ foldN x := Nat.div_le_self _ _
    unfold riceB
    rw [List.length_append, List.length_replicate, List.length_cons, nbits_length]
    omega
  · rw [if_neg he]
    by_cases he0 : 0 < e
    · rw [if_pos he0, nbits_length]
      omega
    · rw [if_neg he0]
      simp
theorem bodyX_short (k e : Int) (l : List Int) (h : ∀ x ∈ l, -4000 ≤ x ∧ x ≤ 4000) (k1 : k ≤ 30) (e1 : e ≤ 31) : (bodyX k e l).length ≤ 8040 * l.length := by
  induction l with
  | nil => simp [bodyX]
  | cons x r ih =>
    have h3 := codeX_short k e x (h x List.mem_cons_self) k1 e1
    have h4 := ih (fun y hy => h y (List.mem_cons_of_mem _ hy))
    have e : bodyX k e (x :: r) = codeX k e x ++ bodyX k e r := by simp [bodyX]
    rw [e, List.length_append, List.length_cons]
    omega
theorem partsX_short (wide n order : Nat) (ps es l : List Int) (cnt m : Nat) (hw : wide ≤ 5) (h : ∀ x ∈ l, -4000 ≤ x ∧ x ≤ 4000) (hok : ∀ i, i < cnt → rd ps (i : Int) ≤ 30 ∧ rd es (i : Int) ≤ 31) (hm : m ≤ cnt) : (partsX wide n order ps es l m).length ≤ 10 * m + 8040 * (m * n) := by
  induction m with
  | zero => simp [partsX]
  | succ m ih =>
    have ih2 := ih (by omega)
    obtain ⟨k1, e1⟩ := hok m (by omega)
    have hb := bodyX_short _ _ (partL l n order m) (fun x hx => h x (List.mem_of_mem_take (List.mem_of_mem_drop hx))) k1 e1
    have hl := partL_length l n order m
    have hh := headX_length wide (rd ps (m : Int)) (rd es (m : Int)) hw
    have hmul : (m + 1) * n = m * n + n := Nat.succ_mul m n
    rw [partsX_snoc, List.length_append]
    unfold partX
    rw [List.length_append]
    omega
theorem bitsE_short (m o block order : Int) (ps es l : List Int) (h : ∀ x ∈ l, -4000 ≤ x ∧ x ≤ 4000) (hc : canE m o ps es block order l) : (bitsE m o ps es block order l).length ≤ 600000000 := by
  obtain ⟨hck, hlen, hall⟩ := hc
  obtain ⟨O, Bk, Od, n, rfl, rfl, rfl, hO, hB0, hB1, hOd, hdiv, hdn, hn, hm⟩ := shape_nat hck.1
  have hps : ps.length = 2 ^ O := by have := hck.2.1; rwa [Int.toNat_natCast] at this
  have h15 : 2 ^ O ≤ 2 ^ 15 := Nat.pow_le_pow_right (by decide) hO
  have e15 : (2 : Nat) ^ 15 = 32768 := by decide
  have hmw : 4 + m.toNat ≤ 5 := by omega
  have := partsX_short (4 + m.toNat) n Od ps es l ps.length ps.length hmw h (fun i hi => by
    obtain ⟨k0, k1, e0, e1, _⟩ := hck.2.2.2 i hi
    exact ⟨by split at k1 <;> omega, e1⟩) (Nat.le_refl _)
  unfold bitsE
  rw [hn, Int.toNat_natCast, Int.toNat_natCast, List.length_append, List.length_append, nbits_length, nbits_length]
  rw [hps] at this ⊢
  rw [← hdiv] at this
  omega
end Go.Proofs.Ytfhekkoibmlmpaa.Hand

/- Contracts of layer 8, proved by hand: RiceBack. -/
namespace Go.Proofs.Ytfhekkoibmlmpaa.Hand
open Go.RowKit Go.Proofs.Ytfhekkoibmlmpaa.Q Go.Proofs.YtfhekkoibmlmpaaW.PrintWords Go.Proofs.YtfhekkoibmlmpaaW.PrintLast Go.Proofs.YtfhekkoibmlmpaaW.PrintMore
set_option linter.unusedVariables false
set_option linter.unusedSimpArgs false

theorem shortP_in {l : List Int} (h : shortP l) : ∀ x ∈ l, -9223372036854775808 ≤ x ∧ x ≤ 9223372036854775807 := fun x hx => by have := h.1 x hx; omega
end Go.Proofs.Ytfhekkoibmlmpaa.Hand

/- Contracts of layer 8, proved by hand: RiceEncodes. -/
namespace Go.Proofs.Ytfhekkoibmlmpaa.Hand
open Go.RowKit Go.Proofs.Ytfhekkoibmlmpaa.Q Go.Proofs.YtfhekkoibmlmpaaW.PrintWords Go.Proofs.YtfhekkoibmlmpaaW.PrintLast Go.Proofs.YtfhekkoibmlmpaaW.PrintMore
set_option linter.unusedVariables false
set_option linter.unusedSimpArgs false

/-- Both writers, one behind the other. -/
structure BW (w3 : World) (b : Nat) (W : World) (v vx : Value) (bs bx : List Bool) : Prop where
  w : WAt W b b v bs
  x : XW W b (b + 1) vx bx
  ap : Apart b v (b + 1) vx
  bel : Below b w3 W
theorem BW.stepw {w3 : World} {b : Nat} {W W' : World} {v vx v' : Value} {bs bx bs' : List Bool} (h : BW w3 b W v vx bs bx) (hw : WAt W' b b v' bs') (hm : Moved b b W v W' v') : BW w3 b W' v' vx bs' bx :=
  ⟨hw, ⟨h.ap.block hm h.x.1, h.ap.row hm h.x.2.1, h.x.2.2⟩, h.ap.moved hm h.x.lt h.x.2.1.lt, h.bel.trans hm.below⟩
theorem BW.stepx {w3 : World} {b : Nat} {W W' : World} {v vx vx' : Value} {bs bx bx' : List Bool} (h : BW w3 b W v vx bs bx) (hx : XW W' b (b + 1) vx' bx') (hm : Moved b (b + 1) W vx W' vx') : BW w3 b W' v vx' bs bx' :=
  ⟨⟨h.ap.symm.block hm h.w.1, h.ap.symm.row hm h.w.2.1, h.w.2.2⟩, hx, (h.ap.symm.moved hm h.w.lt h.w.2.1.lt).symm, h.bel.trans hm.below⟩
theorem BW.below {w3 : World} {b : Nat} {W W' : World} {v vx : Value} {bs bx : List Bool} (h : BW w3 b W v vx bs bx) (hb : Below W.heap.size W W') : BW w3 b W' v vx bs bx :=
  ⟨h.w.below hb, h.x.below hb, h.ap, h.bel.trans (hb.mono (by have := h.w.lt; omega))⟩
set_option maxHeartbeats 4000000 in
set_option maxRecDepth 100000 in
theorem Encode_nil (m o block order : Int) (AP AE A : Option Addr) (nP cP nE cE n c : Nat) (w : World) :
    Calls Try.prog 13 #[.pointer none, .agg #[.int .i64 m, .int .i64 o, .slice AP nP cP, .slice AE nE cE], .int .i64 block, .int .i64 order, .slice A n c] w fun e w' => e = .returned (.int .i64 1) ∧ Below w.heap.size w w' := by
  have hup := Try.underlying28
  have HB := Aside0.mk (below_alloc (Below.refl w.heap.size w) (.cells #[.int .i64 m, .int .i64 o, .slice AP nP cP, .slice AE nE cE] 24 (0, 0)))
  go_enter Try.func13, Try.ntmps13
  go_wp2
  go_ret
  exact ⟨rfl, HB.out⟩
set_option maxHeartbeats 16000000 in
set_option maxRecDepth 100000 in
theorem EncodesLaw_any (m o n0 n1 : Int) (ps es l : List Int) (AP AE A : Option Addr) (cP cE c : Nat) (w : World) (m0 : -9223372036854775808 ≤ m) (m1 : m ≤ 9223372036854775807) (hP : Kd.C (Kd.int .i64) w AP ps.length ps) (hcP : ps.length ≤ cP) (hE : Kd.C (Kd.int .i64) w AE es.length es) (hcE : es.length ≤ cE)
    (hA : Kd.C (Kd.int .i64) w A l.length l) (hc : l.length ≤ c) :
    Calls Try.prog 3 #[.agg #[.int .i64 m, .int .i64 o, .slice AP ps.length cP, .slice AE es.length cE], .agg #[.int .i64 n0, .int .i64 n1], .slice A l.length c] w fun e w' => e = .returned (.bool true) ∧ Below w.heap.size w w' := by
  have hup := Try.underlying28
  have hup3 := Try.underlying30
  have hup2 := Try.underlying45
  have hbel := below_alloc (below_alloc (Below.refl w.heap.size w) (.cells #[.int .i64 m, .int .i64 o, .slice AP ps.length cP, .slice AE es.length cE] 24 (0, 0))) (.cells #[.int .i64 n0, .int .i64 n1] 25 (0, 0))
  have hz : ((w.alloc (.cells #[.int .i64 m, .int .i64 o, .slice AP ps.length cP, .slice AE es.length cE] 24 (0, 0))).alloc (.cells #[.int .i64 n0, .int .i64 n1] 25 (0, 0))).heap[w.heap.size]? = some (.cells #[.int .i64 m, .int .i64 o, .slice AP ps.length cP, .slice AE es.length cE] 24 (0, 0)) := blk_alloc (blk_new w _) _
  have hx : ((w.alloc (.cells #[.int .i64 m, .int .i64 o, .slice AP ps.length cP, .slice AE es.length cE] 24 (0, 0))).alloc (.cells #[.int .i64 n0, .int .i64 n1] 25 (0, 0))).heap[w.heap.size + 1]? = some (.cells #[.int .i64 n0, .int .i64 n1] 25 (0, 0)) := by simpa using blk_new (w.alloc (.cells #[.int .i64 m, .int .i64 o, .slice AP ps.length cP, .slice AE es.length cE] 24 (0, 0))) (.cells #[.int .i64 n0, .int .i64 n1] 25 (0, 0))
  obtain ⟨kk1, hk1⟩ := (check_ev m o ps es n0 n1 m0 m1).rounds
  obtain ⟨kk2, hk2⟩ := (xcheck_ev m o ps es n0 n1).rounds
  have HK1 : Aside0 (∀ W, Below w.heap.size w W → Calls Try.prog 18 #[.agg #[.int .i64 m, .int .i64 o, .slice AP ps.length cP, .slice AE es.length cE], .int .i64 n0, .int .i64 n1] W fun e w' => e = .returned (.int .i64 (if checkP m o ps es n0 n1 then 0 else 60)) ∧ Below W.heap.size W w') :=
    ⟨fun W hW => rice_Check.calls kk1 m o AP cP ps AE cE es n0 n1 _ W (Kd.C_below hP hW) hcP (Kd.C_below hE hW) hcE hk1⟩
  have HK2 : Aside0 (∀ W, Below w.heap.size w W → Calls Try.prog 19 #[.agg #[.int .i64 m, .int .i64 o, .slice AP ps.length cP, .slice AE es.length cE], .int .i64 n0, .int .i64 n1] W fun e w' => e = .returned (.int .i64 (if checkP m o ps es n0 n1 then 0 else 60)) ∧ Below W.heap.size W w') :=
    ⟨fun W hW => lacquerref08_Check.calls kk2 m o AP cP ps AE cE es n0 n1 _ W (Kd.C_below hP hW) hcP (Kd.C_below hE hW) hcE hk2⟩
  clear hk1 hk2
  have HSH : Aside0 (∀ W, Below w.heap.size w W → Calls Try.prog 8 #[.slice A l.length c] W fun e w' => e = .returned (.bool (decide (shortP l))) ∧ Drawn0 W w') := ⟨fun W hW => short_any l (C_len hA) A c W (Kd.C_below hA hW) hc⟩
  have HA := Aside0.mk hA
  have HP := Aside0.mk hP
  have HE := Aside0.mk hE
  have HZ1 := Aside0.mk hz
  have HX1 := Aside0.mk hx
  have HB1 := Aside0.mk hbel
  clear hbel hz hx hA hP hE
  by_cases hs : shortP l
  · rw [decide_eq_true hs] at HSH
    have HS := Aside0.mk hs
    clear hs
    go_enter Try.func3, Try.ntmps3
    go_wp2_with fail
    with_reducible refine (HSH.out _ HB1.out).mono ?_
    rintro e w3 ⟨rfl, hd3⟩
    have HZ3 := Aside0.mk (blk_below HZ1.out hd3.below)
    have HX3 := Aside0.mk (blk_below HX1.out hd3.below)
    have HB3 : Aside0 (Below w.heap.size w w3) := ⟨HB1.out.trans (hd3.below.mono HB1.out.size)⟩
    have HP3 := Aside0.mk (Kd.C_below HP.out HB3.out)
    have HE3 := Aside0.mk (Kd.C_below HE.out HB3.out)
    have HA3 := Aside0.mk (Kd.C_below HA.out HB3.out)
    clear hd3 HB1 HZ1 HX1 HSH HA HP HE
    go_wp2_with fail
    refine (New_any _).mono ?_
    rintro e w4 ⟨rfl, rfl⟩
    have hw4 := new_at w3 w3.heap.size (Nat.le_refl _)
    have hb4 := below_alloc (Below.refl w3.heap.size w3) (.cells #[.int .i64 0, .slice none 0 0] 64)
    have s4 : (w3.alloc (.cells #[.int .i64 0, .slice none 0 0] 64)).heap.size = w3.heap.size + 1 := by simp
    generalize w3.alloc (.cells #[.int .i64 0, .slice none 0 0] 64) = w4 at hw4 hb4 s4 ⊢
    have hx5 := blk_new w4 (.cells #[.slice none 0 0] 33)
    have hb5 := below_alloc (Below.refl w4.heap.size w4) (.cells #[.slice none 0 0] 33)
    rw [s4] at hx5
    go_upto_region 6 with fail
    try rw [s4]
    obtain ⟨b, hbz⟩ : ∃ b, w3.heap.size = b := ⟨_, rfl⟩
    have hbx : BW w3 w3.heap.size (w4.alloc (.cells #[.slice none 0 0] 33)) (.slice none 0 0) (.slice none 0 0) [] [] :=
      ⟨hw4.below hb5, ⟨hx5, BytesAt.nil _ _, Nat.le_succ _⟩, ⟨by omega, by simp [Value.ownBlock], by simp [Value.ownBlock], by simp [Value.ownBlock]⟩, hb4.trans (hb5.mono (by omega))⟩
    generalize w4.alloc (.cells #[.slice none 0 0] 33) = w5 at hbx ⊢
    have HW3 := Aside0.mk HB3.out.size
    have HCL : Aside0 (∀ W, Below w3.heap.size w3 W → W.cell? ⟨w.heap.size, 0, none⟩ = some (.int .i64 m) ∧ W.cell? ⟨w.heap.size, 1, none⟩ = some (.int .i64 o) ∧ W.cell? ⟨w.heap.size, 2, none⟩ = some (.slice AP ps.length cP) ∧ W.cell? ⟨w.heap.size, 3, none⟩ = some (.slice AE es.length cE) ∧ W.cell? ⟨w.heap.size + 1, 0, none⟩ = some (.int .i64 n0) ∧ W.cell? ⟨w.heap.size + 1, 1, none⟩ = some (.int .i64 n1) ∧ Below w.heap.size w W ∧ Kd.C (Kd.int .i64) W AP ps.length ps ∧ Kd.C (Kd.int .i64) W AE es.length es ∧ Kd.C (Kd.int .i64) W A l.length l) := ⟨fun W hW => by
      have h1 := blk_below HZ3.out hW
      have h2 := blk_below HX3.out hW
      exact ⟨blk_cell h1 0, blk_cell h1 1, blk_cell h1 2, blk_cell h1 3, blk_cell h2 0, blk_cell h2 1, HB3.out.trans (hW.mono HW3.out), Kd.C_below HP3.out hW, Kd.C_below HE3.out hW, Kd.C_below HA3.out hW⟩⟩
    obtain ⟨er, her⟩ : ∃ er : Int, (if canE m o ps es n0 n1 l then (0 : Int) else 60) = er := ⟨_, rfl⟩
    obtain ⟨out, hout⟩ : ∃ out : List Bool, (if canE m o ps es n0 n1 l then [true] ++ bitsE m o ps es n0 n1 l else [true]) = out := ⟨_, rfl⟩
    have hol : out.length ≤ 600000001 := by
      rw [← hout]
      split
      · rename_i hcan
        have := bitsE_short m o n0 n1 ps es l HS.out.1 hcan
        rw [List.length_append, List.length_singleton]
        omega
      · simp
    have HEW : Aside0 (∀ W v vx bx, BW w3 w3.heap.size W v vx [true] bx → Calls Try.prog 13 #[.pointer (some ⟨w3.heap.size, 0, none⟩), .agg #[.int .i64 m, .int .i64 o, .slice AP ps.length cP, .slice AE es.length cE], .int .i64 n0, .int .i64 n1, .slice A l.length c] W fun e w' => e = .returned (.int .i64 er) ∧ ∃ v', BW w3 w3.heap.size w' v' vx out bx) := ⟨fun W v vx bx h => by
      have hv : ∀ k, v.ownBlock = some k → w3.heap.size ≤ k := fun k hk => ((Kd.R_bound h.w.2.1).1 k hk).2.1
      have := Encode_any m o n0 n1 AP AE A cP cE c ps es l [true] w3.heap.size w3.heap.size v W m0 m1 (shortP_in HS.out) hcP hcE hc h.w (ListAt.elder HP3.out h.bel (Nat.le_refl _) hv) (ListAt.elder HE3.out h.bel (Nat.le_refl _) hv) (ListAt.elder HA3.out h.bel (Nat.le_refl _) hv) (by simp)
      rw [her, hout] at this
      exact this.mono fun e w' ⟨h1, v', h2, h3⟩ => ⟨h1, v', h.stepw h2 h3⟩⟩
    have HEX : Aside0 (∀ W v vx bs, BW w3 w3.heap.size W v vx bs [true] → Calls Try.prog 14 #[.pointer (some ⟨w3.heap.size + 1, 0, none⟩), .agg #[.int .i64 m, .int .i64 o, .slice AP ps.length cP, .slice AE es.length cE], .int .i64 n0, .int .i64 n1, .slice A l.length c] W fun e w' => e = .returned (.int .i64 er) ∧ ∃ vx', BW w3 w3.heap.size w' v vx' bs out) := ⟨fun W v vx bs h => by
      obtain ⟨_, _, _, _, _, _, _, h1, h2, h3⟩ := HCL.out W h.bel
      have := REncode_any m o n0 n1 AP AE A cP cE c ps es l [true] w3.heap.size (w3.heap.size + 1) vx W HS.out.1 hcP hcE hc h.x h1 h2 h3 (by simp)
      rw [her, hout] at this
      exact this.mono fun e w' ⟨h1, v', h2, h3⟩ => ⟨h1, v', h.stepx h2 h3⟩⟩
    have HEN : Aside0 (∀ W, Calls Try.prog 13 #[.pointer none, .agg #[.int .i64 m, .int .i64 o, .slice AP ps.length cP, .slice AE es.length cE], .int .i64 n0, .int .i64 n1, .slice A l.length c] W fun e w' => e = .returned (.int .i64 1) ∧ Below W.heap.size W w') := ⟨fun W => Encode_nil m o n0 n1 AP AE A _ cP _ cE _ c W⟩
    have HBX5 := Aside0.mk hbx
    have HOL := Aside0.mk hol
    clear hw4 hb4 s4 hx5 hb5 hbz her hout hol hbx HZ3 HX3 HP3 HE3 HA3 HB3 HS
    have HP1 := Aside0.mk (Put_i 1 1 [true] (by decide) (by omega) (by omega) (by omega) (by decide) [] w3.heap.size w3.heap.size _ w5 HBX5.out.w (by simp))
    go_wp2_with fail
    with_reducible refine HP1.out.mono ?_
    rintro e w6 ⟨rfl, v6, hw6, hm6⟩
    have HBX6 := Aside0.mk (HBX5.out.stepw hw6 hm6)
    clear hw6 hm6 HBX5 HP1
    have HP1 := Aside0.mk (XPut_i 1 1 [true] (by decide) (by omega) (by omega) (by omega) (by decide) [] w3.heap.size (w3.heap.size + 1) _ w6 HBX6.out.x (by simp))
    go_wp2_with fail
    with_reducible refine HP1.out.mono ?_
    rintro e w7 ⟨rfl, v7, hw7, hm7⟩
    have hbx7 := HBX6.out.stepx hw7 hm7
    rw [List.nil_append] at hbx7
    have HBX7 := Aside0.mk hbx7
    clear hw7 hm7 HBX6 HP1 hbx7
    have hbx := HBX7.out.below (below_drew (Below.refl w7.heap.size w7))
    clear HBX7
    go_wp2
    go_region_held3 (fun W => W.cell? ⟨w.heap.size, 0, none⟩ = some (.int .i64 m) ∧ W.cell? ⟨w.heap.size, 1, none⟩ = some (.int .i64 o) ∧ W.cell? ⟨w.heap.size, 2, none⟩ = some (.slice AP ps.length cP) ∧ W.cell? ⟨w.heap.size, 3, none⟩ = some (.slice AE es.length cE) ∧ W.cell? ⟨w.heap.size + 1, 0, none⟩ = some (.int .i64 n0) ∧ W.cell? ⟨w.heap.size + 1, 1, none⟩ = some (.int .i64 n1)) (first | exact ⟨(HCL.out _ hbx.bel).1, (HCL.out _ hbx.bel).2.1, (HCL.out _ hbx.bel).2.2.1, (HCL.out _ hbx.bel).2.2.2.1, (HCL.out _ hbx.bel).2.2.2.2.1, (HCL.out _ hbx.bel).2.2.2.2.2.1⟩)
      ((first | (go_at_call 13; (with_reducible refine (HEW.out _ _ _ _ hbx).mono ?_); rintro e w7 ⟨rfl, v9, hn9⟩; clear hbx; have hbx := hn9; clear hn9) | (go_at_call 14; (with_reducible refine (HEX.out _ _ _ _ hbx).mono ?_); rintro e w7 ⟨rfl, v9, hn9⟩; clear hbx; have hbx := hn9; clear hn9)))
    all_goals
      obtain ⟨vw, vx, hby⟩ : ∃ vw vx, BW w3 w3.heap.size w7 vw vx out out := ⟨_, _, hbx⟩
      clear hbx
      obtain ⟨A3, cc3, e3⟩ := Kd.R_slice hby.x.2.1
      rw [ones_length] at e3
      subst e3
      obtain ⟨L, hL⟩ : ∃ L, out.length = L := ⟨_, rfl⟩
      have HF : Aside0 (∀ W, Below w7.heap.size w7 W → BW w3 w3.heap.size W vw (.slice A3 out.length cc3) out out) := ⟨fun W hW => hby.below hW⟩
      have HLE : Aside0 (∀ W, Below w7.heap.size w7 W → Calls Try.prog 15 #[.pointer (some ⟨w3.heap.size, 0, none⟩)] W fun e w' => e = .returned (.int .i64 L) ∧ W = w') := ⟨fun W hW => by
        have := Len_any out _ _ vw W (HF.out W hW).w
        rw [hL] at this
        exact this⟩
      have HBY := Aside0.mk (fun W hW => Bytes_any out _ _ vw W (HF.out W hW).w)
      have HBX : Aside0 (∀ W, Below w7.heap.size w7 W → Calls Try.prog 17 #[.pointer (some ⟨w3.heap.size + 1, 0, none⟩)] W fun e w' => e = .returned (.string (strOfNums (pack out))) ∧ Below W.heap.size W w') := ⟨fun W hW => XBytes_any out _ _ _ W (HF.out W hW).x (by have := HOL.out; omega)⟩
      have HWB : Aside0 (∀ W, Below w7.heap.size w7 W → Below w.heap.size w W) := ⟨fun W hW => (HCL.out W (HF.out W hW).bel).2.2.2.2.2.2.1⟩
      have HSK : Aside0 (∀ W, Below w7.heap.size w7 W → W.cell? ⟨w.heap.size, 0, none⟩ = some (.int .i64 m) ∧ W.cell? ⟨w.heap.size, 1, none⟩ = some (.int .i64 o) ∧ W.cell? ⟨w.heap.size, 2, none⟩ = some (.slice AP ps.length cP) ∧ W.cell? ⟨w.heap.size, 3, none⟩ = some (.slice AE es.length cE) ∧ W.cell? ⟨w.heap.size + 1, 0, none⟩ = some (.int .i64 n0) ∧ W.cell? ⟨w.heap.size + 1, 1, none⟩ = some (.int .i64 n1) ∧ W.cell? ⟨w3.heap.size + 1, 0, none⟩ = some (.slice A3 L cc3)) := ⟨fun W hW => by
        obtain ⟨h1, h2, h3, h4, h5, h6, _⟩ := HCL.out W (HF.out W hW).bel
        exact ⟨h1, h2, h3, h4, h5, h6, by rw [← hL]; exact blk_cell (HF.out W hW).x.1 0⟩⟩
      have ee : (er == er) = true := by simp
      have el : ((L : Int) == (L : Int)) = true := by simp
      obtain ⟨ck, hck⟩ : ∃ ck : Int, (if checkP m o ps es n0 n1 then (0 : Int) else 60) = ck := ⟨_, rfl⟩
      rw [hck] at HK1 HK2
      have ek : (ck == ck) = true := by simp
      generalize strOfNums (pack out) = tx at HBY HBX
      have hbw : Below w7.heap.size w7 w7.drew := below_drew (Below.refl _ _)
      clear hby hL hck HF HCL HEW HEX
      go_wp2
      go_region_held3 (fun W => W.cell? ⟨w.heap.size, 0, none⟩ = some (.int .i64 m) ∧ W.cell? ⟨w.heap.size, 1, none⟩ = some (.int .i64 o) ∧ W.cell? ⟨w.heap.size, 2, none⟩ = some (.slice AP ps.length cP) ∧ W.cell? ⟨w.heap.size, 3, none⟩ = some (.slice AE es.length cE) ∧ W.cell? ⟨w.heap.size + 1, 0, none⟩ = some (.int .i64 n0) ∧ W.cell? ⟨w.heap.size + 1, 1, none⟩ = some (.int .i64 n1) ∧ W.cell? ⟨w3.heap.size + 1, 0, none⟩ = some (.slice A3 L cc3)) (first | exact HSK.out _ hbw)
        ((first | (go_at_call 15; (with_reducible refine (HLE.out _ hbw).mono ?_); rintro e w8 ⟨rfl, rfl⟩) | (go_at_call 16; (with_reducible refine (HBY.out _ hbw).mono ?_); rintro e w8 ⟨rfl, rfl⟩) | (go_at_call 17; (with_reducible refine (HBX.out _ hbw).mono ?_); rintro e w8 ⟨rfl, hn9⟩; have hbw2 := hbw.trans (hn9.mono hbw.size); clear hbw hn9; have hbw := hbw2; clear hbw2) | (go_at_call 18; (with_reducible refine (HK1.out _ (HWB.out _ hbw)).mono ?_); rintro e w8 ⟨rfl, hn9⟩; have hbw2 := hbw.trans (hn9.mono hbw.size); clear hbw hn9; have hbw := hbw2; clear hbw2) | (go_at_call 19; (with_reducible refine (HK2.out _ (HWB.out _ hbw)).mono ?_); rintro e w8 ⟨rfl, hn9⟩; have hbw2 := hbw.trans (hn9.mono hbw.size); clear hbw hn9; have hbw := hbw2; clear hbw2) | (go_at_call 13; (with_reducible refine (HEN.out _).mono ?_); rintro e w8 ⟨rfl, hn9⟩; have hbw2 := hbw.trans (hn9.mono hbw.size); clear hbw hn9; have hbw := hbw2; clear hbw2) | (go_at_call 9; (with_reducible refine (awake_any _).mono ?_); rintro e w8 ⟨rfl, hn9⟩; have hbw2 := hbw.trans (hn9.mono hbw.size); clear hbw hn9; have hbw := hbw2; clear hbw2)))
      all_goals
        have HB9 := Aside0.mk (HWB.out _ hbw)
        clear hbw
        go_wp2
        go_ret
        exact ⟨rfl, HB9.out⟩
  · rw [decide_eq_false hs] at HSH
    clear hs
    go_enter Try.func3, Try.ntmps3
    go_wp2_with fail
    with_reducible refine (HSH.out _ HB1.out).mono ?_
    rintro e w3 ⟨rfl, hd3⟩
    have HB3 : Aside0 (Below w.heap.size w w3) := ⟨HB1.out.trans (hd3.below.mono HB1.out.size)⟩
    clear hd3 HB1 HSH HZ1 HX1
    go_wp2_with fail
    with_reducible refine (awake_any _).mono ?_
    rintro e w9 ⟨rfl, hb9⟩
    have HB9 := Aside0.mk (HB3.out.trans (hb9.mono HB3.out.size))
    clear hb9
    go_wp2
    go_ret
    exact ⟨rfl, HB9.out⟩
end Go.Proofs.Ytfhekkoibmlmpaa.Hand
