/- Hand-made contracts of functions of layer 2 that the print does not take: bytes.turn. -/
import Derived.Test.YtfhkhbmpbmjlcaaProg
import Derived.WalkKit
import Derived.KernelRfl
import Derived.Below
import Derived.BigRegion
import Derived.Deep.LoopGhost
import Derived.Deep.Draws
import Derived.Lib.ConvBytes
import Derived.Laws.BytesArg
import Derived.Test.YtfhkhbmpbmjlcaaWWords
import Derived.Test.YtfhkhbmpbmjlcaaWMore
namespace Go.Proofs.Ytfhkhbmpbmjlcaa.Hand
open Go.RowKit Go.Proofs.YtfhkhbmpbmjlcaaW.PrintWords

theorem xor_u8 (n : Int) : Op.unary .xor (.int .u8 n) = Op.intBits .xor .u8 255 n := rfl

/-- A row that came of a string by a conversion: its block bears the mark of such a row. -/
def BRow (w : World) (g c : Nat) (n : Nat) (f : Nat → Int) : Prop :=
  ∃ cur : Array Value, w.heap[g]? = some (.cells cur 5 (c, c + 1)) ∧ cur.size = c ∧ n ≤ c ∧ c ≤ maxLen ∧ ∀ j, j < n → cur[j]? = some (.int .u8 (f j))

theorem BRow.cell {w : World} {g c n : Nat} {f : Nat → Int} (h : BRow w g c n f) (j : Nat) (hj : j < n) : w.cell? ⟨g, j, none⟩ = some (.int .u8 (f j)) := by
  obtain ⟨cur, hb, _, _, _, hc⟩ := h
  simp [World.cell?, hb, hc j hj]
theorem BRow.frozen {w : World} {g c n : Nat} {f : Nat → Int} (h : BRow w g c n f) (j : Nat) (hj : j < n) : w.frozen? ⟨g, j, none⟩ = false := by
  obtain ⟨cur, hb, _, hn, _, hc⟩ := h
  simp [World.frozen?, hb]
  omega
theorem BRow.drew {w : World} {g c n : Nat} {f : Nat → Int} (h : BRow w g c n f) : BRow w.drew g c n f := h
theorem BRow.set {w : World} {g c n : Nat} {f : Nat → Int} (h : BRow w g c n f) (i : Nat) (v : Int) : BRow (w.setCell ⟨g, i, none⟩ (.int .u8 v)) g c n (fun j => if j = i then v else f j) := by
  obtain ⟨cur, hb, hs, hn, hm, hc⟩ := h
  refine ⟨cur.setIfInBounds i (.int .u8 v), ?_, by simpa using hs, hn, hm, fun j hj => ?_⟩
  · simp [World.setCell, Array.getElem?_modify, hb]
  · rw [Array.getElem?_setIfInBounds]
    by_cases e : i = j
    · subst e
      simp; omega
    · rw [if_neg e, hc j hj]
      simp [show ¬ j = i from fun h => e h.symm]

/-- The bytes of s behind k rounds of the exchange. -/
def mix (s : ByteArray) (k j : Nat) : Int := bt s (if j < k ∨ s.size ≤ j + k then s.size - 1 - j else j : Nat)
def rev (s : ByteArray) : ByteArray := ⟨s.data.reverse⟩

def TurnRel (w : World) (s : ByteArray) (c : Nat) (wr : World) (k : Nat) : Prop :=
  BRow wr w.heap.size c s.size (mix s k) ∧ Below w.heap.size w wr

theorem BRow.mono {w : World} {g c n : Nat} {f f' : Nat → Int} (h : BRow w g c n f) (hf : ∀ j, j < n → f j = f' j) : BRow w g c n f' := by
  obtain ⟨cur, hb, hs, hn, hm, hc⟩ := h
  exact ⟨cur, hb, hs, hn, hm, fun j hj => by rw [hc j hj, hf j hj]⟩
theorem BRow.start {w : World} (s : ByteArray) (hs : s.size ≤ maxLen) : BRow (Lib.bytesWorld w 5 s) w.heap.size (grownCap w s.size 0 5) s.size (fun j => bt s (j : Nat)) := by
  have hsz : (Lib.bytesCells w 5 s).size = grownCap w s.size 0 5 := by
    have := grownCap_ge w s.size 0 5
    simp [Lib.bytesCells]
    omega
  refine ⟨Lib.bytesCells w 5 s, ?_, hsz, grownCap_ge _ _ _ _, grownCap_le_maxLen _ _ _ _ hs, fun j hj => ?_⟩
  · have := Lib.bytesWorld_at_new w 5 s
    rwa [hsz] at this
  · have := Lib.bytesWorld_cell w 5 s j hj
    rw [World.cell?, Lib.bytesWorld_at_new] at this
    have e : (s.data.toList.getD j 0).toNat = bt s (j : Nat) := by
      simp [bt, List.getD_eq_getElem?_getD, hj]
      rfl
    show (Lib.bytesCells w 5 s)[j]? = some (.int .u8 (bt s (j : Nat)))
    rw [← e]
    simpa using this
theorem BRow.conv (P : Program) {wr : World} {g c n : Nat} {f : Nat → Int} (hs : P.underlying 43 = some (.slice 5)) (he : P.underlying 5 = some (.int .u8)) (hd : P.underlying 9 = some .string) (h : BRow wr g c n f) :
    (convert 43 9 (.slice (some ⟨g, 0, none⟩) n c)).run P wr = .ok (.string (strOfNums ((List.range n).map f))) wr :=
  run_convert_bytes_arg wr 43 5 hs he g 0 n c _ (by simp) (fun i hi => by
    rw [Nat.zero_add, h.cell i hi]
    simp [List.getD_eq_getElem?_getD, hi]) 9 hd

theorem own_lower' {w : World} {base base' n size : Nat} {e : TypeId} {v : Value} {xs : List Value} (h : w.ownsRow base e size v n xs) (hb : base' ≤ base) : w.ownsRow base' e size v n xs := by
  obtain ⟨h1, h2⟩ := h
  refine ⟨h1, ?_⟩
  rcases h2 with h2 | ⟨g, cap, cur, h3, h4, h5⟩
  · exact .inl h2
  · exact .inr ⟨g, cap, cur, h3, Nat.le_trans hb h4, h5⟩
/-- A row of bytes of the call's own: one that came of a string, or any other. -/
def ARow (w : World) (B : Nat) (v : Value) (xs : List Int) : Prop :=
  (∃ g c, v = .slice (some ⟨g, 0, none⟩) xs.length c ∧ B ≤ g ∧ g < w.heap.size ∧ BRow w g c xs.length (fun j => xs.getD j 0)) ∨ w.ownsRow B 5 1 v xs.length (nums .u8 xs)
theorem BRow.keep {w w' : World} {g c n : Nat} {f : Nat → Int} (h : BRow w g c n f) (hb : w'.heap[g]? = w.heap[g]?) : BRow w' g c n f := by
  obtain ⟨cur, h1, h2⟩ := h
  exact ⟨cur, hb.trans h1, h2⟩
theorem ARow.start {w : World} {B : Nat} (s : ByteArray) (hs : s.size ≤ maxLen) (hB : B ≤ w.heap.size) : ARow (Lib.bytesWorld w 5 s) B (.slice (some ⟨w.heap.size, 0, none⟩) s.size (grownCap w s.size 0 5)) (bytesOf s) := by
  refine .inl ⟨w.heap.size, grownCap w s.size 0 5, by rw [bytesOf_length], hB, by rw [Lib.bytesWorld_size]; omega, ?_⟩
  rw [bytesOf_length]
  refine (BRow.start s hs).mono fun j hj => ?_
  rw [← rd_bytesOf]
  rfl
theorem ARow.conv (P : Program) {wr : World} {B : Nat} {v : Value} {xs : List Int} (hs : P.underlying 43 = some (.slice 5)) (he : P.underlying 5 = some (.int .u8)) (hd : P.underlying 9 = some .string) (h : ARow wr B v xs) :
    (convert 43 9 v).run P wr = .ok (.string (strOfNums xs)) wr := by
  rcases h with ⟨g, c, rfl, hB, _, hr⟩ | h
  · rw [hr.conv P hs he hd]
    congr 3
    apply List.ext_getElem
    · simp
    · intro i h1 h2
      simp [List.getD_eq_getElem?_getD, h2]
  · exact own_string hs he hd h
theorem ARow.append {P : Program} {ops : Array Oper} {rest : List Oper} {o : Oper} {a : Act} {Q : Exit → Act → World → Prop} {w0 W : World} {B : Nat} {v : Value} {xs : List Int} (y : Int) (hgd : o.guard = none) (s x : Operand)
    (ho : o.op = .call { callee := .builtin .append, args := #[s, x], argTypes := #[43, 43] }) (ht : P.underlying 43 = some (.slice 5)) (hinfo : (P.info? 5).map (fun i => (i.zero, i.size, i.bytes)) = some (some (.int .u8 0), 1, 1))
    (hs : a.eval s = v) (hx : a.eval x = .slice (some ⟨W.heap.size, 0, none⟩) 1 1) (HO : ARow W B v xs) (HB : Below B w0 W) (hbase : B ≤ W.heap.size) (hl : xs.length < 140737488355328)
    (h : ∀ v1 w1, ARow w1 B v1 (xs ++ [y]) → Below B w0 w1 → wpList P ops Q rest (a.put o.dst v1) w1) : wpList P ops Q (o :: rest) a (W.alloc (.cells #[.int .u8 y] 5)) := by
  rcases HO with ⟨g, c, rfl, hB, hg, hr⟩ | HO
  · obtain ⟨i0, hi, hzz⟩ := Option.map_eq_some_iff.1 hinfo
    simp only [Prod.mk.injEq] at hzz
    obtain ⟨hz0, hz1, hz2⟩ := hzz
    have hr' : BRow (W.alloc (.cells #[.int .u8 y] 5)) g c xs.length (fun j => xs.getD j 0) := hr.keep (Below.heap_alloc W _ g hg)
    refine wpList_append_arg (W.alloc (.cells #[.int .u8 y] 5)) hgd s x 43 ho 5 i0 (.int .u8 0) 1 1 ht hi hz0 hz1 hz2 rfl (by decide) g 0 xs.length c (nums .u8 xs) hs (by simp [nums]) ?_ ⟨W.heap.size, 0, none⟩ 1 1 [.int .u8 y] hx rfl ?_ (by simp [Value.oneCell']) ?_ (by unfold maxLen; omega) (by omega) ?_ ?_
    · intro j u hu
      have hj : j < xs.length := by
        have := (List.getElem?_eq_some_iff.1 hu).1
        simpa [nums] using this
      rw [Nat.zero_add, hr'.cell j hj, ← hu]
      simp [nums, List.getD_eq_getElem?_getD, hj]
    · exact World.news_of_block (cs := #[.int .u8 y]) (t := 5) (fr := (0, 0)) (heap_alloc_new W _)
    · intro hle j hj
      obtain ⟨cur, h1, h2, h3, h4, h5⟩ := hr'
      have hj0 : j = 0 := by simpa using hj
      subst hj0
      constructor
      · simp only [World.cell?, h1]
        simp
        omega
      · simp only [World.frozen?, h1]
        simp
        omega
    · intro hle
      have e : (W.alloc (.cells #[.int .u8 y] 5)).setCells g (0 + xs.length * 1) [.int .u8 y] = (W.alloc (.cells #[.int .u8 y] 5)).setCell ⟨g, xs.length, none⟩ (.int .u8 y) := by
        simp [World.setCells]
      rw [e]
      refine h _ _ (.inl ⟨g, c, by simp, hB, by simp [World.setCell]; omega, ?_⟩) ((HB.alloc hbase _).setCell hB _)
      obtain ⟨cur, h1, h2, h3, h4, h5⟩ := hr'.set xs.length y
      refine ⟨cur, h1, h2, by simp; omega, h4, fun j hj => ?_⟩
      simp only [List.length_append, List.length_cons, List.length_nil] at hj
      obtain ⟨cur0, g1, g2, g3, g4, g5⟩ := hr'
      have hcur : cur = cur0.setIfInBounds xs.length (.int .u8 y) := by
        have : ((W.alloc (.cells #[.int .u8 y] 5)).setCell ⟨g, xs.length, none⟩ (.int .u8 y)).heap[g]? = some (.cells (cur0.setIfInBounds xs.length (.int .u8 y)) 5 (c, c + 1)) := by
          simp [World.setCell, Array.getElem?_modify, g1]
        rw [h1] at this
        injection this with this
        injection this with this
      rw [hcur, Array.getElem?_setIfInBounds]
      by_cases e : xs.length = j
      · subst e
        simp
        omega
      · rw [if_neg e, g5 j (by omega)]
        simp [List.getD_eq_getElem?_getD, List.getElem?_append_left (show j < xs.length by omega)]
    · intro hlt v' w' hown hg'
      refine h v' w' (.inr ?_) ((HB.alloc hbase _).grown hg' (by simp; omega) (fun k hk => by cases hk))
      have := own_lower' hown (show B ≤ _ by simp; omega)
      simpa [nums] using this
  · exact print_append (w0 := w0) B hgd s x 43 5 (.int .u8 0) 1 ho ht hinfo rfl (by decide) v (nums .u8 xs) (.int .u8 y) hs hx rfl (by simpa [nums] using HO) HB hbase (by simp [nums]; omega) (fun v1 w1 h1 h2 _ _ => h v1 w1 (.inr (by simpa [nums] using h1)) h2)

theorem turn_step {w wr : World} {s : ByteArray} {c k m : Nat} {x1 x2 : Int} (h : TurnRel w s c wr k) (h1 : mix s k k = x1) (h2 : mix s k (s.size - 1 - k) = x2) (hm : s.size = k + 1 + m) (hk : 2 * (k + 1) ≤ s.size) :
    TurnRel w s c ((wr.setCell ⟨w.heap.size, k, none⟩ (.int .u8 x2)).setCell ⟨w.heap.size, m, none⟩ (.int .u8 x1)).drew (k + 1) := by
  refine ⟨?_, ((h.2.setCell (Nat.le_refl _) _).setCell (Nat.le_refl _) _).drew⟩
  refine BRow.mono ((h.1.set k x2).set m x1) fun j hj => ?_
  have em : s.size - 1 - k = m := by omega
  rw [em] at h2
  subst h1 h2
  unfold mix
  by_cases e1 : j = m
  · subst e1
    simp only [if_true]
    rw [if_neg (by omega), if_pos (by omega)]
    congr 1
    omega
  · rw [if_neg e1]
    by_cases e2 : j = k
    · subst e2
      simp only [if_true]
      rw [if_neg (by omega), if_pos (by omega)]
      congr 1
      omega
    · rw [if_neg e2]
      by_cases e3 : j < k ∨ s.size ≤ j + k
      · rw [if_pos e3, if_pos (by omega)]
      · rw [if_neg e3, if_neg (by omega)]
theorem rev_size (s : ByteArray) : (rev s).size = s.size := (Array.size_reverse : s.data.reverse.size = s.data.size)
theorem strOfNums_bt (s : ByteArray) : strOfNums ((List.range s.size).map fun j => bt s (j : Nat)) = s := by
  have : ((List.range s.size).map fun j => bt s (j : Nat)).map (fun n => UInt8.ofNat n.toNat) = s.data.toList := by
    apply List.ext_getElem
    · rw [List.length_map, List.length_map, List.length_range, Array.length_toList]
      rfl
    · intro i h1 h2
      have hi : i < s.size := by rw [Array.length_toList] at h2; exact h2
      rw [List.getElem_map, List.getElem_map, List.getElem_range]
      simp only [bt, Int.toNat_natCast, dif_pos hi, UInt8.ofNat_toNat]
      rfl
  cases s
  simp only [strOfNums, this]
theorem turn_conv (P : Program) {w wr : World} {s : ByteArray} {c k : Nat} (hs : P.underlying 43 = some (.slice 5)) (he : P.underlying 5 = some (.int .u8)) (hd : P.underlying 9 = some .string) (h : TurnRel w s c wr k) (h1 : 2 * k ≤ s.size) (h2 : s.size < 2 * (k + 1)) :
    (convert 43 9 (.slice (some ⟨w.heap.size, 0, none⟩) s.size c)).run P wr = .ok (.string (rev s)) wr := by
  rw [h.1.conv P hs he hd]
  have e : (List.range s.size).map (mix s k) = (List.range (rev s).size).map fun j => bt (rev s) (j : Nat) := by
    rw [rev_size]
    refine List.map_congr_left fun j hj => ?_
    have hj' : j < s.size := by simpa using hj
    have hj2 : j < s.data.size := hj'
    have e1 : mix s k j = bt s ((s.size - 1 - j : Nat) : Int) := by
      unfold mix
      by_cases e3 : j < k ∨ s.size ≤ j + k
      · rw [if_pos e3]
      · rw [if_neg e3]
        congr 1
        omega
    rw [e1]
    have h3 : s.size - 1 - j < s.size := by omega
    have h4 : j < (rev s).size := by rw [rev_size]; exact hj'
    simp only [bt, Int.toNat_natCast, dif_pos h3, dif_pos h4]
    congr 2
    show s.data[s.size - 1 - j] = (s.data.reverse)[j]'(by simpa using hj2)
    rw [Array.getElem_reverse]
    rfl
  rw [e, strOfNums_bt]
theorem turn_start {w : World} {s : ByteArray} (hs : s.size ≤ maxLen) : TurnRel w s (grownCap w s.size 0 5) (Lib.bytesWorld w 5 s) 0 := by
  refine ⟨(BRow.start s hs).mono fun j hj => ?_, bytes_below (Below.refl _ _) (Nat.le_refl _) 5 s⟩
  unfold mix
  rw [if_neg (by omega)]
set_option maxHeartbeats 1000000 in
set_option maxRecDepth 100000 in
theorem turn_any (s : ByteArray) (hs : s.size ≤ maxLen) (w : World) :
    Calls Try.prog 26 #[.string s] w fun e w' => e = .returned (.string (rev s)) ∧ Below w.heap.size w w' := by
  have hcv := fun W : World => Lib.run_convert_string_bytes (P := Try.prog) W 9 43 5 s Try.underlying9 Try.underlying43 Try.underlying5
  unfold maxLen at hs
  go_enter Try.func26, Try.ntmps26
  go_wp2
  obtain ⟨c, hcap⟩ : ∃ c, grownCap w s.size 0 5 = c := ⟨_, rfl⟩
  rw [hcap]
  have HB : TurnRel w s c (Lib.bytesWorld w 5 s) 0 := by
    rw [← hcap]
    exact turn_start hs
  obtain ⟨w1, hw1⟩ : ∃ w1, Lib.bytesWorld w 5 s = w1 := ⟨_, rfl⟩
  rw [hw1] at HB ⊢
  clear hw1 hcap hcv
  go_loopw [11] (fun i wr => ∃ k : Nat, 2 * k ≤ s.size ∧ i = .int .i64 k ∧ TurnRel w s c wr k) (fun i _ => s.size - (intOf i).toNat)
  case atStart => exact ⟨0, by omega, rfl, HB⟩
  case round =>
    clear HB
    obtain ⟨k, hk, rfl, HB⟩ := hrel
    by_cases hlt : 2 * (k + 1) ≤ s.size
    · have b0 : (k : Int) < (s.size : Int) / 2 := by omega
      have hb := HB.1
      have c1 := hb.cell k (by omega)
      have c2 := hb.cell (s.size - 1 - k) (by omega)
      have f1 := hb.frozen k (by omega)
      have f2 := hb.frozen (s.size - 1 - k) (by omega)
      obtain ⟨x1, hx1⟩ : ∃ x, mix s k k = x := ⟨_, rfl⟩
      obtain ⟨x2, hx2⟩ : ∃ x, mix s k (s.size - 1 - k) = x := ⟨_, rfl⟩
      rw [hx1] at c1
      rw [hx2] at c2
      obtain ⟨m, hm⟩ : ∃ m, s.size = k + 1 + m := ⟨s.size - 1 - k, by omega⟩
      have e1 : s.size - 1 - k = m := by omega
      rw [e1] at c2 f2
      obtain ⟨x3, c3⟩ : ∃ x, (wr.setCell ⟨w.heap.size, k, none⟩ (.int .u8 x2)).cell? ⟨w.heap.size, m, none⟩ = some (.int .u8 x) := ⟨_, (hb.set k x2).cell m (by omega)⟩
      have i1 : 0 ≤ (m : Int) := by omega
      have i2 : (m : Int) < s.size := by omega
      have i3 : (k : Int) < s.size := by omega
      have HB' := Aside0.mk HB
      have HX1 := Aside0.mk hx1
      have HX2 := Aside0.mk hx2
      have HM := Aside0.mk hm
      have HE := Aside0.mk e1
      clear HB hb hx1 hx2 hm e1
      go_wp2
      rw [show ((s.size : Int) - 1 - (k : Int)) = (m : Int) by have := HM.out; omega]
      go_region
      all_goals
        go_wp2
        go_roundw
        case rel => exact ⟨k + 1, by omega, by go_num, turn_step HB'.out HX1.out HX2.out HM.out hlt⟩
        case measure => simp [intOf]; omega
    · have b0 : ¬ (k : Int) < (s.size : Int) / 2 := by omega
      have hcv := turn_conv (Try.prog) Try.underlying43 Try.underlying5 Try.underlying9 HB (by omega) (by omega)
      have HB' := Aside0.mk HB
      clear HB
      go_wp2
      go_ret
      exact ⟨rfl, HB'.out.2⟩
end Go.Proofs.Ytfhkhbmpbmjlcaa.Hand
