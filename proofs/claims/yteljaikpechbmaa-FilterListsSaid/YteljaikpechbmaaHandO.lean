/- Contracts of layer 17, proved by hand: FilterPieces. -/
import Derived.Test.YteljaikpechbmaaHandN
namespace Go.Proofs.Yteljaikpechbmaa.Hand
open Go.RowKit Go.Proofs.Yteljaikpechbmaa.Q Go.Proofs.YteljaikpechbmaaW.PrintWords Go.Proofs.YteljaikpechbmaaW.PrintLast Go.Proofs.YteljaikpechbmaaW.PrintMore
set_option linter.unusedVariables false
set_option linter.unusedSimpArgs false
attribute [local go_sem] max2_int min2_int max_two min_two

section
variable {ops : Array Oper} {o : Oper} {a : Act} {Q : Exit → Act → World → Prop} {rest : List Oper}
theorem app_got {w0 W : World} {B : Nat} (s x : Operand) (y : Int) {v : Value} {xs : List Int} (hgd : o.guard = none)
    (ho : o.op = .call { callee := .builtin .append, args := #[s, x], argTypes := #[22, 22] }) (hs : a.eval s = v) (hx : a.eval x = .slice (some ⟨W.heap.size, 0, none⟩) 1 1)
    (HO : Got W B v xs) (HB : Below B w0 W) (hB : B ≤ W.heap.size) (hl : xs.length < 17592186044415)
    (h : ∀ v1 w1, Aside0 (Got w1 B v1 (xs ++ [y])) → Aside0 (Below B w0 w1) → wpList Try.prog ops Q rest (a.put o.dst v1) w1) :
    wpList Try.prog ops Q (o :: rest) a (W.alloc (.cells #[.int .i64 y] 3)) :=
  Kd.R_append (Kd.int .i64) (w0 := w0) B hgd s x 22 3 (.int .i64 0) 8 ho Try.underlying22 info3 rfl (by decide) (by omega) v xs y [.int .i64 y] (fun _ => True) (fun _ => False) hs hx rfl (fun _ hk => hk.elim)
    (fun _ _ => trivial) HO HB hB (by omega) (fun v1 w1 h1 h2 _ _ => h v1 w1 ⟨h1⟩ ⟨h2⟩)
end
def m32 (l : List Int) (n : Nat) : List Int := tab n fun i => wrap32 (rd l (i : Nat))
theorem m32_in (l : List Int) (n : Nat) : In32 (m32 l n) := by
  intro x hx
  obtain ⟨i, _, rfl⟩ := List.mem_map.1 hx
  exact wrap32_in _
theorem m32_length (l : List Int) (n : Nat) : (m32 l n).length = n := tab_length _ _
theorem allF_ok (op : List Step → Int → List Step × Int) (k : Int) (l : List Int) (hk : 0 ≤ k ∧ k ≤ 2) (h : In32 l) : allF op k l = (outs op (start k) l, 0) := by
  unfold allF
  rw [if_pos hk, if_pos h]
theorem outs_take (op : List Step → Int → List Step × Int) (st : List Step) (l : List Int) : ∀ n, n ≤ l.length → outs op st (l.take n) = (outs op st l).take n := by
  induction l generalizing st with
  | nil => intro n h; simp at h; subst h; rfl
  | cons x l ih =>
    intro n h
    cases n with
    | zero => rfl
    | succ n =>
      rw [List.take_succ_cons, outs, outs, List.take_succ_cons, ih]
      simpa using h
theorem outs_get (op : List Step → Int → List Step × Int) (st : List Step) (l : List Int) (i : Nat) (h : i < l.length) : rd (outs op st l) (i : Int) = (op (ends op st (l.take i)) (rd l (i : Int))).2 := by
  have h1 := outs_take op st l (i + 1) (by omega)
  have e : l.take (i + 1) = l.take i ++ [rd l (i : Int)] := by
    rw [List.take_succ_eq_append_getElem h]
    simp [rd, h]
  rw [e, outs_snoc, outs_take op st l i (by omega)] at h1
  have hl := outs_length op l st
  have e2 : (outs op st l).take (i + 1) = (outs op st l).take i ++ [rd (outs op st l) (i : Int)] := by
    rw [List.take_succ_eq_append_getElem (by omega)]
    simp [rd, show i < (outs op st l).length by omega]
  rw [e2] at h1
  have := List.append_cancel_left h1
  simpa using this.symm
set_option maxHeartbeats 16000000 in
set_option maxRecDepth 100000 in
theorem Pieces_any (lv : Int) (l : List Int) (at_ : Int) (A : Option Addr) (c : Nat) (w : World) (hA : Kd.C (Kd.int .i64) w A l.length l) (hc : l.length ≤ c) (hl : l.length * 8 ≤ 140737488351232) (il : ∀ x ∈ l, -9223372036854775808 ≤ x ∧ x ≤ 9223372036854775807) :
    Calls Try.prog 5 #[.int .i64 lv, .slice A l.length c, .int .i64 at_] w fun e w' => e = .returned (.bool true) ∧ Below w.heap.size w w' := by
  have hup := Try.underlying24
  have HR := Aside0.mk (Kd.reads_of_C (d := (0 : Int)) (enc := Value.int .i64) hA)
  obtain ⟨k1, hk1⟩ : ∃ k1 : Int, (if 2 < lv then 2 else lv) = k1 := ⟨_, rfl⟩
  obtain ⟨k, hk⟩ : ∃ k : Int, (if 0 < k1 then k1 else 0) = k := ⟨_, rfl⟩
  have hk0 : 0 ≤ k ∧ k ≤ 2 := by rw [← hk, ← hk1]; split <;> (try split) <;> omega
  have HK := Aside0.mk hk0
  obtain ⟨n, hn⟩ : ∃ n, n = min l.length 300 := ⟨_, rfl⟩
  obtain ⟨j1, hj1⟩ : ∃ j1 : Int, (if (n : Int) < at_ then (n : Int) else at_) = j1 := ⟨_, rfl⟩
  obtain ⟨j, hj⟩ : ∃ j : Nat, (if 0 < j1 then j1 else 0) = (j : Int) := ⟨(if 0 < j1 then j1 else 0).toNat, by split <;> omega⟩
  have hjn : j ≤ n := by split at hj <;> split at hj1 <;> omega
  have hn1 : n ≤ l.length := by omega
  have hn2 : n ≤ 300 := by omega
  have hn3 : n = l.length ∨ n = 300 := by omega
  have HIL := Aside0.mk il
  clear hA hk0 hn il
  go_enter Try.func5, Try.ntmps5
  have HG0 := Aside0.mk (show Got w w.heap.size (.slice none 0 0) (m32 l 0) from Kd.R_nil _ _ _ _ _)
  go_wp2
  go_loopw [7, 8] (fun mv iv wr => ∃ i : Nat, i ≤ n ∧ iv = .int .i64 i ∧ Aside0 (Got wr w.heap.size mv (m32 l i)) ∧ Aside0 (Below w.heap.size w wr)) (fun _ iv _ => n - (intOf iv).toNat)
  case atStart => exact ⟨0, Nat.zero_le _, rfl, HG0, ⟨Below.refl _ _⟩⟩
  case round =>
    clear HG0
    obtain ⟨i, hi, rfl, HG, HB⟩ := hrel
    by_cases hlt : i < n
    · have i0 : (0 : Int) ≤ (i : Int) := by omega
      have i1 : (i : Int) < (l.length : Int) := by omega
      have i2 : (i : Int) < 300 := by omega
      obtain ⟨ad, rfl, hx⟩ := (HR.out.below HB.out).at_ (i : Int) (by omega) i1
      rw [Int.toNat_natCast] at hx
      have hsn : m32 l (i + 1) = m32 l i ++ [wrap32 (rd l (i : Int))] := tab_snoc _ _
      have hwi := wrap32_in (rd l (i : Int))
      have hww : IntKind.i32.wrap (rd l (i : Int)) = wrap32 (rd l (i : Int)) := i32_w _
      have hlen := m32_length l i
      have hx' : wr.cell? (ad.add i) = some (.int .i64 (rd l (i : Int))) := hx
      clear hx
      generalize wrap32 (rd l (i : Int)) = y at hsn hwi hww
      generalize rd l (i : Int) = x at hx' hww
      obtain ⟨y1, y2⟩ := hwi
      have HSN := Aside0.mk hsn
      have HLN := Aside0.mk hlen
      clear hsn hlen
      go_wp2_with (at_builtin; (with_reducible refine app_got (w0 := w) (B := w.heap.size) (v := u7) (xs := m32 l i) (.tmp 28) (.tmp 35) y ?_ ?_ ?_ ?_ ?_ ?_ ?_ ?_ ?_); rfl; rfl; rfl; rfl; exact HG.out; exact HB.out; exact HB.out.size; (rw [HLN.out]; omega); intro v1 w4 HG4 HB4)
      go_roundw
      case rel => exact ⟨i + 1, by omega, by go_num, ⟨by rw [HSN.out]; exact HG4.out⟩, HB4⟩
      case measure => simp [intOf]; omega
    · obtain rfl : i = n := by omega
      have hst : ¬ (i : Int) < (l.length : Int) ∨ ((i : Int) < (l.length : Int) ∧ ¬ (i : Int) < 300) := by omega
      have HMI := Aside0.mk (m32_in l i)
      have hml := m32_length l i
      generalize m32 l i = m at HG HMI hml
      obtain ⟨Am, cm, rfl, hm1, hm2⟩ := HG.out.C
      rw [hml] at hm1 ⊢
      have HML := Aside0.mk hml
      have HMC := Aside0.mk hm2
      have HAF := Aside0.mk (allF_ok fwd k m HK.out HMI.out)
      have HFL := Aside0.mk (Forward_list k m Am cm wr (Kd.reads_of_C (d := (0 : Int)) (enc := Value.int .i64) hm2) (by omega))
      rw [HAF.out, HML.out] at HFL
      clear hml hm2 hlt hi
      rcases hst with hst | ⟨hst, hst2⟩
      all_goals
        go_wp2_with fail
        refine HFL.out.mono ?_
        rintro e w2 ⟨va, rfl, hR, hB⟩
        have HB2 := Aside0.mk (HB.out.trans (hB.mono HB.out.size))
        have HMC2 := Aside0.mk (C_below HMC.out hB)
        obtain ⟨Aa, ca, rfl, ha1, ha2⟩ := Got.C (show Got w2 wr.heap.size va (outs fwd (start k) m) from hR)
        have HAC2 := Aside0.mk ha2
        have hol := outs_length fwd m (start k)
        rw [HML.out] at hol
        rw [hol] at ha1 ⊢
        have HOL := Aside0.mk hol
        clear hR hB ha2 hol HFL HMC HG HB
        go_wp2_with fail
        refine (New_any k HK.out.1 HK.out.2 w2).mono ?_
        rintro e w3 ⟨g, cv, ls, rfl, hC, hB⟩
        have HC3 := Aside0.mk hC
        have HB3 := Aside0.mk hB
        clear hC hB
        go_wp2
        go_loopw [12] (fun iv wr2 => ∃ q : Nat, q ≤ i ∧ iv = .int .i64 q ∧ Aside0 (ChAt wr2 w2.heap.size g cv ls (ends fwd (start k) (m.take q))) ∧ Aside0 (Below w2.heap.size w2 wr2)) (fun iv _ => i - (intOf iv).toNat)
        case atStart => exact ⟨0, Nat.zero_le _, rfl, HC3, HB3⟩
        case round =>
          clear HC3 HB3
          obtain ⟨q, hq, rfl, HC, HB⟩ := hrel
          by_cases hlt : q < i
          · have q0 : (0 : Int) ≤ (q : Int) := by omega
            have q1 : (q : Int) < (i : Int) := by omega
            obtain ⟨adm, hem, hxm⟩ := (Kd.reads_of_C (d := (0 : Int)) (enc := Value.int .i64) (C_below HMC2.out HB.out)).at_ (q : Int) q0 (by rw [HML.out]; exact q1)
            obtain ⟨ada, hea, hxa⟩ := (Kd.reads_of_C (d := (0 : Int)) (enc := Value.int .i64) (C_below HAC2.out HB.out)).at_ (q : Int) q0 (by rw [HOL.out]; exact q1)
            subst hem hea
            have HSK : Aside0 (∀ W : World, Below w2.heap.size w2 W → W.cell? (adm.add q) = some (.int .i64 (rd m (q : Int))) ∧ W.cell? (ada.add q) = some (.int .i64 (rd (outs fwd (start k) m) (q : Int)))) := ⟨fun W hW => by
              obtain ⟨a1, e1, c1⟩ := (Kd.reads_of_C (d := (0 : Int)) (enc := Value.int .i64) (C_below HMC2.out hW)).at_ (q : Int) q0 (by rw [HML.out]; exact q1)
              obtain ⟨a2, e2, c2⟩ := (Kd.reads_of_C (d := (0 : Int)) (enc := Value.int .i64) (C_below HAC2.out hW)).at_ (q : Int) q0 (by rw [HOL.out]; exact q1)
              injection e1 with e1
              injection e2 with e2
              subst e1 e2
              rw [Int.toNat_natCast] at c1 c2
              exact ⟨c1, c2⟩⟩
            have hmq : rd m (q : Int) ∈ m := by simp [rd, show q < m.length by rw [HML.out]; exact hlt]
            have h32 := HMI.out _ hmq
            have hwx := wrap32_id _ h32
            have hog := outs_get fwd (start k) m q (by rw [HML.out]; exact hlt)
            have hen := ends_snoc fwd (rd m (q : Int)) (m.take q) (start k)
            have ht : m.take (q + 1) = m.take q ++ [rd m (q : Int)] := by
              have : q < m.length := by rw [HML.out]; exact hlt
              rw [List.take_succ_eq_append_getElem this]
              simp [rd, this]
            rw [← ht] at hen
            have HF : Aside0 (∀ W : World, W.heap = wr.heap → Calls Try.prog 10 #[.pointer (some ⟨g, 0, none⟩), .int .i64 (rd m (q : Int))] W fun e w' => e = .returned (.int .i64 (rd (outs fwd (start k) m) (q : Int))) ∧ ChAt w' w2.heap.size g cv ls (ends fwd (start k) (m.take (q + 1))) ∧ Below w2.heap.size W w') := ⟨fun W hW => by
              have hC : ChAt W w2.heap.size g cv ls (ends fwd (start k) (m.take q)) := HC.out.kept (S := fun _ => False) ⟨by rw [hW]; exact Nat.le_refl _, fun i _ _ => by rw [hW]⟩ (fun _ _ h => h)
              have := Forward_any w2.heap.size g cv ls _ (rd m (q : Int)) W hC (by omega) (by omega)
              rw [hwx, ← hog, ← hen] at this
              exact this.mono fun _ _ ⟨a, b, c⟩ => ⟨a, b, c.below⟩⟩
            have hbw : Below w2.heap.size w2 wr.drew := below_drew HB.out
            obtain ⟨d1, d2⟩ := HSK.out _ hbw
            have d1 : wr.cell? (adm.add q) = _ := d1
            have d2 : wr.cell? (ada.add q) = _ := d2
            clear hmq h32 hwx hog hen ht hxm hxa HC HB
            generalize rd m (q : Int) = x at HSK HF d1
            generalize rd (outs fwd (start k) m) (q : Int) = z at HSK HF d2
            go_wp2
            go_region_held3 (fun W => W.cell? (adm.add q) = some (.int .i64 x) ∧ W.cell? (ada.add q) = some (.int .i64 z)) (first | exact HSK.out _ hbw)
              ((go_at_call 10; (with_reducible refine (HF.out _ ?_).mono ?_); rfl; rintro e w4 ⟨rfl, hC4, hM4⟩; have hbw2 := hbw.trans hM4; clear hbw; have hbw := hbw2; clear hbw2))
            all_goals
              have HC4 := Aside0.mk hC4
              have HB4 := Aside0.mk hbw
              clear hC4 hM4 hbw
              go_wp2
              go_roundw
              case rel => exact ⟨q + 1, by omega, by go_num, HC4, HB4⟩
              case measure => simp [intOf]; omega
          · obtain rfl : q = i := by omega
            have m0 : (0 : Int) ≤ (j : Int) := by omega
            have m1 : ¬ (cm : Int) < (j : Int) := by omega
            have m2 : ¬ (ca : Int) < (j : Int) := by omega
            have m3 : (j : Int) ≤ (cm : Int) := by omega
            have m4 : (j : Int) ≤ (ca : Int) := by omega
            have hlm : (m.take j).length = j := by rw [List.length_take, HML.out]; omega
            have hmh := C_head j (C_below HMC2.out HB.out) (by rw [HML.out]; exact hjn)
            have HFH := Aside0.mk (Forward_list k (m.take j) Am cm wr (Kd.reads_of_C (d := (0 : Int)) (enc := Value.int .i64) hmh) (by rw [hlm]; omega))
            rw [allF_ok fwd k (m.take j) HK.out (fun x hx => HMI.out x (List.mem_of_mem_take hx)), hlm, outs_take fwd (start k) m j (by rw [HML.out]; exact hjn)] at HFH
            have HWB := Aside0.mk (HB2.out.trans (HB.out.mono HB2.out.size))
            clear hmh hlm HC
            go_wp2_with fail
            refine HFH.out.mono ?_
            rintro e w5 ⟨vh, rfl, hR, hB⟩
            have HB5 := Aside0.mk (HWB.out.trans (hB.mono HWB.out.size))
            obtain ⟨Ah, ch, rfl, hh1, hh2⟩ := Got.C (show Got w5 wr.heap.size vh ((outs fwd (start k) m).take j) from hR)
            have hlo : ((outs fwd (start k) m).take j).length = j := by rw [List.length_take, HOL.out]; omega
            have hoh := C_head j (C_below (C_below HAC2.out HB.out) hB) (by rw [HOL.out]; exact hjn)
            have HS5 := Aside0.mk (same_any ((outs fwd (start k) m).take j) Ah Aa ch ca w5 hh2 hh1 hoh (by rw [hlo]; omega) (by rw [hlo]; omega))
            rw [hlo] at HS5 ⊢
            clear hR hB hh1 hh2 hlo hoh HFH
            go_wp2_with fail
            refine HS5.out.mono ?_
            rintro e w6 ⟨rfl, hd⟩
            have HB6 := Aside0.mk (HB5.out.trans (hd.below.mono HB5.out.size))
            clear hd HS5
            go_wp2_with fail
            refine (awake_any _).mono ?_
            rintro e w7 ⟨rfl, hB⟩
            have HB7 := Aside0.mk (HB6.out.trans (hB.mono HB6.out.size))
            clear hB
            go_wp2
            go_ret
            exact ⟨rfl, HB7.out⟩
theorem Pieces_came (lv at_ : Int) (A : Option Addr) (n c : Nat) (V : Nat → Int) (w : World) (hc : n ≤ c) (hn : n * 8 ≤ 140737488351232)
    (F : ∀ j, j < n → ∃ ad, A = some ad ∧ w.cell? (ad.add j) = some (.int .i64 (V j)) ∧ -9223372036854775808 ≤ V j ∧ V j ≤ 9223372036854775807) :
    Calls Try.prog 5 #[.int .i64 lv, .slice A n c, .int .i64 at_] w fun e w' => e = .returned (.bool true) ∧ Below w.heap.size w w' := by
  obtain ⟨a, rfl, ha, ia⟩ := came_list hn F
  exact Pieces_any lv a at_ A c w ha hc hn ia
end Go.Proofs.Yteljaikpechbmaa.Hand
