/- Contracts of layer 19, proved by hand: Decode. -/
import Derived.Test.YtoologbaoifheaaModE
import Derived.OwnWalk
namespace Go.Proofs.Ytoologbaoifheaa.Hand
open Go.RowKit Go.Proofs.Ytoologbaoifheaa.Q Go.Proofs.Ytoologbaoifheaa.Math Go.Proofs.YtoologbaoifheaaW.PrintWords Go.Proofs.YtoologbaoifheaaW.PrintLast Go.Proofs.YtoologbaoifheaaW.PrintMore
set_option linter.unusedVariables false
set_option linter.unusedSimpArgs false
attribute [local go_sem] max2_int min2_int max_two min_two

/-- A list that was made: R, wherever it lies. -/
def Got (w : World) (B : Nat) (v : Value) (xs : List Int) : Prop := Kd.R (Kd.int .i64) 3 w B (fun _ => True) v xs
theorem Got.below {w w' : World} {B : Nat} {v : Value} {xs : List Int} (h : Got w B v xs) (hb : Below w.heap.size w w') : Got w' B v xs := Kd.R_below h hb
theorem Got.C {w : World} {B : Nat} {v : Value} {xs : List Int} (h : Got w B v xs) : ∃ A c, v = .slice A xs.length c ∧ xs.length ≤ c ∧ Kd.C (Kd.int .i64) w A xs.length xs := Kd.R_reads h
/-- The list that is made while the decoder lies in g, the counts in gc. -/
abbrev DRow (w : World) (B g gc : Nat) (v : Value) (xs : List Int) : Prop := Kd.R (Kd.int .i64) 3 w B (fun k => k ≠ g ∧ k ≠ gc) v xs
theorem DRow.two {w w' : World} {B B2 g gc : Nat} {v : Value} {xs : List Int} (hr : DRow w B g gc v xs) (ht : Two B2 g gc w w') : DRow w' B g gc v xs := Kd.R_kept hr ht.2 (fun k hk h => h.elim hk.1 hk.2)
theorem DecAt.own {w w1 : World} {B g gc : Nat} {v : Value} {d : Dec} {xs : List Int} (h : DecAt w g d) (hr : DRow w B g gc v xs) (hg : w.grownBy w1 v.ownBlock) : DecAt w1 g d := (hg.block g (blk_lt h) (fun e => (hr.1 g e.symm).1 rfl)).trans h
theorem CntAt.own {w w1 : World} {B g gc : Nat} {v : Value} {c : List Int} {s : Int} {xs : List Int} (h : CntAt w gc c s) (hr : DRow w B g gc v xs) (hg : w.grownBy w1 v.ownBlock) : CntAt w1 gc c s := ⟨(hg.block gc h.lt (fun e => (hr.1 gc e.symm).2 rfl)).trans h.1, h.2⟩
theorem infoI : (Try.prog.info? 3).map (fun i => (i.zero, i.size, i.bytes)) = some (some (.int .i64 0), 1, 8) := by kernel_rfl
section
variable {ops : Array Oper} {o : Oper} {a : Act} {Q : Exit → Act → World → Prop} {rest : List Oper}
theorem app_dec {w0 W : World} {B g gc : Nat} {d : Dec} {c : List Int} {t : Int} (s x : Operand) (y : Int) {v : Value} {xs : List Int} (hgd : o.guard = none)
    (ho : o.op = .call { callee := .builtin .append, args := #[s, x], argTypes := #[25, 25] }) (hs : a.eval s = v) (hx : a.eval x = .slice (some ⟨W.heap.size, 0, none⟩) 1 1)
    (HO : DRow W B g gc v xs) (HD : DecAt W g d) (HC : CntAt W gc c t) (HB : Below B w0 W) (hB : B ≤ W.heap.size) (hl : xs.length < 17592186044415)
    (h : ∀ v1 w1, Aside0 (DRow w1 B g gc v1 (xs ++ [y])) → Aside0 (DecAt w1 g d) → Aside0 (CntAt w1 gc c t) → Aside0 (Below B w0 w1) → wpList Try.prog ops Q rest (a.put o.dst v1) w1) :
    wpList Try.prog ops Q (o :: rest) a (W.alloc (.cells #[.int .i64 y] 3)) :=
  Kd.R_append (Kd.int .i64) (w0 := w0) B hgd s x 25 3 (.int .i64 0) 8 ho Try.underlying25 infoI rfl (by decide) (by omega) v xs y [.int .i64 y] (fun k => k ≠ g ∧ k ≠ gc) (fun _ => False) hs hx rfl (fun _ hk => hk.elim)
    (fun k hk => ⟨by have := blk_lt HD; omega, by have := HC.lt; omega⟩) HO HB hB (by omega) (fun v1 w1 h1 h2 h3 h4 => h v1 w1 ⟨h1⟩ ⟨HD.own HO h3⟩ ⟨HC.own HO h3⟩ ⟨h2⟩)
end
theorem lowD_ok : ∀ (f left u : Nat) (d : Dec) (x : Nat) (d' : Dec), lowD f left u d = some (x, d') → GoodD d → GoodD d' ∧ d'.s = d.s
  | 0, left, u, d, x, d', h, hg => by
    simp only [lowD] at h
    injection h with h
    injection h with h1 h2
    subst h2
    exact ⟨hg, rfl⟩
  | f + 1, left, u, d, x, d', h, hg => by
    unfold lowD at h
    split at h
    · injection h with h
      injection h with h1 h2
      subst h2
      exact ⟨hg, rfl⟩
    · split at h
      · have h2 := lowD_ok f _ _ _ x d' h (bitsD_good _ d hg)
        exact ⟨h2.1, h2.2.trans (bitsD_s _ d)⟩
      · cases h
theorem num_ok (r : Rt) (x : Int) (r' : Rt) (h : numD r = some (x, r')) (hg : GoodD r.d) (hc : CountsOk r.c r.s) : GoodD r'.d ∧ CountsOk r'.c r'.s ∧ r'.d.s = r.d.s := by
  unfold numD at h
  split at h
  · split at h
    · obtain ⟨⟨y, d'⟩, h1, h2⟩ := Option.map_eq_some_iff.1 h
      injection h2 with h3 h4
      subst h4
      obtain ⟨a, b⟩ := lowD_ok _ _ _ _ _ _ h1 (takeD_good r.d _ _ _ hg)
      have hcl : classD r < 42 := by
        have := findC_lt r.c 42 0 (peekD r.d r.s).1 (by decide)
        unfold classD
        omega
      exact ⟨a, hc.saw _ hcl, b.trans (takeD_s _ _ _ _)⟩
    · cases h
  · cases h
set_option maxHeartbeats 8000000 in
set_option maxRecDepth 100000 in
theorem Decode_any (s : ByteArray) (hs : s.size ≤ 9223372036854775807) (n : Int) (w : World) :
    Calls Try.prog 15 #[.string s, .int .i64 n] w fun e w' => ∃ v, e = .returned (.tuple #[v, .int .i64 (decF s n).2.1, .int .i64 (decF s n).2.2]) ∧ Got w' w.heap.size v (decF s n).1 ∧ Below w.heap.size w w' := by
  have hup := Try.underlying67
  have HF : Aside0 (decF s n = if n < 0 ∨ 16777216 < n then (([], 0, 1) : List Int × Int × Int) else if (ofD s).bad = true then (([], 0, 2) : List Int × Int × Int) else
    match decs n.toNat ⟨ofD s, ones, 42⟩ [] with
    | none => (([], 0, 2) : List Int × Int × Int)
    | some (out, r) => ((out, r.d.pos, 0) : List Int × Int × Int)) := ⟨rfl⟩
  have HNIL : ∀ W : World, Got W w.heap.size (.slice none 0 0) [] := fun W => Kd.R_nil _ _ _ _ _
  have HNI := Aside0.mk HNIL
  clear HNIL
  by_cases hn : n < 0 ∨ 16777216 < n
  · have HR := Aside0.mk (HF.out.trans (if_pos hn))
    clear HF
    have hn2 : n < 0 ∨ ¬ n < 0 ∧ 16777216 < n := by omega
    clear hn
    rcases hn2 with hn | ⟨hn, hn3⟩
    · go_enter Try.func15, Try.ntmps15
      go_wp2
      go_ret3
      rw [HR.out]
      exact ⟨_, rfl, HNI.out _, Below.refl _ _⟩
    · go_enter Try.func15, Try.ntmps15
      go_wp2
      go_ret3
      rw [HR.out]
      exact ⟨_, rfl, HNI.out _, Below.refl _ _⟩
  · have HR := Aside0.mk (HF.out.trans (if_neg hn))
    have n0 : 0 ≤ n := by omega
    have n1 : n ≤ 16777216 := by omega
    have HOF := Aside0.mk (Of_any s hs w.heap.size w (Nat.le_refl _))
    have hod : (ofD s).s = s := by
      by_cases hb : s.size < 5 ∨ ¬ bt s 0 = 0
      · rw [ofD_bad s hb]
      · rw [ofD_good s hb]
    have HOS : Aside0 ((ofD s).s.size ≤ 9223372036854775807) := ⟨by rw [hod]; exact hs⟩
    have HOG := Aside0.mk (ofD_ok s)
    have hpk : peekD (ofD s) 1 = if (ofD s).bad = true then (0, 2) else ((peekD (ofD s) 1).1, 0) := by
      unfold peekD
      rw [if_neg (by decide)]
      split
      · rfl
      · rfl
    have HPK := Aside0.mk hpk
    clear HF hn hod hs hpk
    generalize ofD s = d0 at HR HOF HOS HOG HPK
    go_enter Try.func15, Try.ntmps15
    go_wp2_with fail
    with_reducible refine HOF.out.mono ?_
    rintro e w1 ⟨g, rfl, hg1, hd1, hb1⟩
    have HD1 := Aside0.mk hd1
    have HB1 := Aside0.mk hb1
    clear hd1 hb1
    go_wp2_with fail
    with_reducible refine (begun_any w1).mono ?_
    rintro e w2 ⟨rfl, hc2, hb2⟩
    have HC2 := Aside0.mk hc2
    have HD2 := Aside0.mk (HD1.out.below hb2)
    have HB2 := Aside0.mk (HB1.out.trans (hb2.mono HB1.out.size))
    have hgc : w.heap.size ≤ w1.heap.size := HB1.out.size
    have hne : g ≠ w1.heap.size := by have := blk_lt HD1.out; omega
    clear hc2 hb2 HD1 HB1
    obtain ⟨B, hB⟩ : ∃ B, w.heap.size = B := ⟨_, rfl⟩
    have HBB := Aside0.mk hB
    rw [hB] at hg1 HB2 hgc HNI
    clear hB
    generalize w1.heap.size = gc at HC2 hgc hne ⊢
    go_wp2_with fail
    with_reducible refine (Peek_any d0 1 g w2 HD2.out HOG.out).mono ?_
    rintro e w3 ⟨rfl, hd3⟩
    have HD3 := Aside0.mk (HD2.out.below hd3.below)
    have HC3 := Aside0.mk (HC2.out.below hd3.below)
    have HB3 : Aside0 (Below B w w3) := ⟨HB2.out.trans (hd3.below.mono (by have := HC2.out.lt; omega))⟩
    clear hd3 HD2 HC2 HB2
    rw [HPK.out]
    cases hbad : d0.bad with
    | true =>
      have HR2 := Aside0.mk (HR.out.trans (if_pos hbad))
      clear HR
      rw [if_pos rfl]
      go_wp2
      go_ret3
      rw [HR2.out, HBB.out]
      exact ⟨_, rfl, HNI.out _, HB3.out⟩
    | false =>
      have HR2 := Aside0.mk (HR.out.trans (if_neg (by rw [hbad]; decide)))
      clear HR
      rw [if_neg (by decide)]
      generalize (peekD d0 1).1 = p0
      have HO3 : Aside0 (DRow w3 B g gc (.slice none 0 0) []) := ⟨Kd.R_nil (Kd.int .i64) 3 w3 B (fun k => k ≠ g ∧ k ≠ gc)⟩
      obtain ⟨X, hX⟩ : ∃ X, decs n.toNat ⟨d0, ones, 42⟩ [] = X := ⟨_, rfl⟩
      rw [hX] at HR2
      have HX := Aside0.mk hX
      have HCO := Aside0.mk begun_ok
      clear hX
      go_wp2
      go_loopw [11, 31] (fun ov iv wr => ∃ (i : Nat) (r : Rt) (out : List Int), (i : Int) ≤ n ∧ iv = .int .i64 i ∧ out.length = i ∧ Aside0 (GoodD r.d) ∧ Aside0 (CountsOk r.c r.s) ∧ Aside0 (r.d.s.size ≤ 9223372036854775807) ∧ Aside0 (DecAt wr g r.d) ∧ Aside0 (CntAt wr gc r.c r.s) ∧ Aside0 (DRow wr B g gc ov out) ∧ Aside0 (Below B w wr) ∧ Aside0 (decs (n.toNat - i) r out = X)) (fun _ iv _ => n.toNat - (intOf iv).toNat)
      case atStart => exact ⟨0, ⟨d0, ones, 42⟩, [], by omega, rfl, rfl, HOG, HCO, HOS, HD3, HC3, HO3, HB3, HX⟩
      case round =>
        clear HOG HCO HOS HD3 HC3 HO3 HB3 HX HPK HOF
        obtain ⟨i, r, out, hi, rfl, hlen, HG, HC, HS, HD, HK, HO, HB, HX⟩ := hrel
        by_cases hlt : (i : Int) < n
        · have hB9 : B ≤ wr.heap.size := by have := HK.out.lt; omega
          have HNA := Aside0.mk (number_any r HG.out HC.out HS.out B g gc hg1 hgc wr HD.out HK.out hB9)
          obtain ⟨m, hm⟩ : ∃ m, n.toNat - i = m + 1 := ⟨n.toNat - i - 1, by omega⟩
          have HX2 : Aside0 ((match numD r with | none => none | some (x, r') => decs m r' (out ++ [x])) = X) := ⟨by have := HX.out; rw [hm] at this; exact this⟩
          have hm2 : n.toNat - (i + 1) = m := by omega
          clear HX hm
          go_wp2_with fail
          with_reducible refine HNA.out.mono ?_
          rintro e w5 ⟨ht5, ⟨hq, rfl⟩ | ⟨x, r', hq, rfl, hd5, hk5⟩⟩
          · have HXN : Aside0 (X = none) := ⟨by have := HX2.out; rw [hq] at this; exact this.symm⟩
            have HB5 := Aside0.mk (HB.out.trans ht5.1)
            clear ht5 hq HX2 HNA
            go_wp2
            go_ret3
            rw [HR2.out, HXN.out, HBB.out]
            exact ⟨_, rfl, HNI.out _, HB5.out⟩
          · have HX3 : Aside0 (decs m r' (out ++ [x]) = X) := ⟨by have := HX2.out; rw [hq] at this; exact this⟩
            have hok := num_ok r x r' hq HG.out HC.out
            have HG5 := Aside0.mk hok.1
            have HC5 := Aside0.mk hok.2.1
            have HS5 : Aside0 (r'.d.s.size ≤ 9223372036854775807) := ⟨by rw [hok.2.2]; exact HS.out⟩
            have HB5 := Aside0.mk (HB.out.trans ht5.1)
            have HO5 := Aside0.mk (HO.out.two ht5)
            have HD5 := Aside0.mk hd5
            have HK5 := Aside0.mk hk5
            have hB5 : B ≤ w5.heap.size := by have := hk5.lt; omega
            clear ht5 hq HX2 HNA hok hd5 hk5 HG HC HS HD HK HO HB
            go_wp2_with (at_builtin; (with_reducible refine app_dec (w0 := w) (B := B) (g := g) (gc := gc) (d := r'.d) (c := r'.c) (t := r'.s) (v := u11) (xs := out) (.tmp 41) (.tmp 43) x ?_ ?_ ?_ ?_ ?_ ?_ ?_ ?_ ?_ ?_ ?_); rfl; rfl; rfl; rfl; exact HO5.out; exact HD5.out; exact HK5.out; exact HB5.out; exact hB5; omega; intro v1 w6 HO6 HD6 HK6 HB6)
            go_roundw
            case rel => exact ⟨i + 1, r', out ++ [x], by omega, by go_num, by rw [List.length_append, hlen]; rfl, HG5, HC5, HS5, HD6, HK6, HO6, HB6, ⟨by rw [hm2]; exact HX3.out⟩⟩
            case measure => simp [intOf]; omega
        · have hz : n.toNat - i = 0 := by omega
          have HXS : Aside0 (X = some (out, r)) := ⟨by have := HX.out; rw [hz] at this; exact this.symm⟩
          clear hz HX
          go_wp2_with fail
          with_reducible refine (Used_any r.d g _ HD.out).mono ?_
          rintro e w7 ⟨rfl, hd7⟩
          have HO7 := Aside0.mk (Kd.R_below HO.out hd7.below)
          have HB7 : Aside0 (Below B w w7) := ⟨HB.out.trans (hd7.below.mono (by have := HK.out.lt; omega))⟩
          clear hd7
          go_wp2
          go_ret3
          rw [HR2.out, HXS.out, HBB.out]
          exact ⟨_, rfl, Kd.R_mono HO7.out (fun _ _ => trivial), HB7.out⟩
end Go.Proofs.Ytoologbaoifheaa.Hand
