/- Contracts of layer 17, proved by hand: a chain forward. -/
import Derived.Test.YteljaikpechbmaaHandE
namespace Go.Proofs.Yteljaikpechbmaa.Hand
open Go.RowKit Go.Proofs.Yteljaikpechbmaa.Q Go.Proofs.YteljaikpechbmaaW.PrintWords Go.Proofs.YteljaikpechbmaaW.PrintLast Go.Proofs.YteljaikpechbmaaW.PrintMore
set_option linter.unusedVariables false
set_option linter.unusedSimpArgs false

/-- The row of a chain's steps: the slice, its block. -/
def StepsRow (w : World) (B : Nat) (ls : List Lay) (v : Value) : Prop :=
  (ls = [] ∧ v = .slice none 0 0) ∨ ∃ b, v = .slice (some ⟨b, 0, none⟩) ls.length ls.length ∧ w.heap[b]? = some (.cells (ls.map Lay.val).toArray 58 (0, 0)) ∧ B ≤ b
/-- A chain: its head, its row, its steps, each in blocks of its own. -/
structure ChAt (w : World) (B g : Nat) (v : Value) (ls : List Lay) (st : List Step) : Prop where
  hd : w.heap[g]? = some (.cells #[v] 44 (0, 0))
  row : StepsRow w B ls v
  base : B ≤ g
  len : st.length = ls.length
  step : ∀ (i : Nat) (l : Lay) (s : Step), ls[i]? = some l → st[i]? = some s → StepAt w B l s
  apart : (ls.flatMap Lay.blocks).Nodup
  okay : Okays st
  few : ls.length ≤ 3
theorem wrap_id (x : Int) (h : -9223372036854775808 ≤ x) (h2 : x ≤ 9223372036854775807) : wrap64 x = x := by unfold wrap64; omega
theorem chain_blocks {ls : List Lay} (h : (ls.flatMap Lay.blocks).Nodup) {i j : Nat} {l m : Lay} (hi : ls[i]? = some l) (hj : ls[j]? = some m) (hij : i ≠ j) : ∀ b ∈ m.blocks, b ∉ l.blocks := by
  induction ls generalizing i j with
  | nil => simp at hi
  | cons q ls ih =>
    rw [List.flatMap_cons, List.nodup_append] at h
    obtain ⟨h1, h2, h3⟩ := h
    intro b hb hl
    cases i with
    | zero =>
      cases j with
      | zero => exact hij rfl
      | succ j =>
        simp at hi hj
        subst hi
        exact h3 b hl b (List.mem_flatMap.2 ⟨m, List.mem_of_getElem? hj, hb⟩) rfl
    | succ i =>
      cases j with
      | zero =>
        simp at hi hj
        subst hj
        exact h3 b hb b (List.mem_flatMap.2 ⟨l, List.mem_of_getElem? hi, hl⟩) rfl
      | succ j =>
        simp at hi hj
        exact ih h2 hi hj (by omega) b hb hl
theorem step_ty {w : World} {B : Nat} {l : Lay} {s : Step} (h : StepAt w B l s) {g : Nat} {t : TypeId} {cs : Array Value} (hb : w.heap[g]? = some (.cells cs t (0, 0))) (ht : t ≠ 47 ∧ t ≠ 67 ∧ t ≠ 68 ∧ t ≠ 3) : g ∉ l.blocks := by
  cases l with
  | last k =>
    obtain ⟨h1, h2, x, h3, h4⟩ := h
    intro hm
    rw [List.mem_singleton.1 hm] at hb
    exact blk_ne hb h4 ht.1 rfl
  | taps k bw bs =>
    obtain ⟨h1, h2, h3, h4, h5, saw, a, h6, h7⟩ := h
    intro hm
    simp only [Lay.blocks, List.mem_cons, List.not_mem_nil, or_false] at hm
    rcases hm with rfl | rfl | rfl
    · exact blk_ne hb h6.hd ht.2.1 rfl
    · exact blk_ne hb h6.wr ht.2.2.1 rfl
    · exact blk_ne hb h6.sr ht.2.2.2 rfl
theorem ChAt.steps {w : World} {B g : Nat} {v : Value} {ls : List Lay} {st : List Step} (h : ChAt w B g v ls st) {b : Nat} (hb : b ∈ ls.flatMap Lay.blocks) : ∃ (i : Nat) (l : Lay) (s : Step), ls[i]? = some l ∧ st[i]? = some s ∧ StepAt w B l s ∧ b ∈ l.blocks := by
  obtain ⟨l, hl, hb⟩ := List.mem_flatMap.1 hb
  obtain ⟨i, hi, e⟩ := List.getElem_of_mem hl
  have h1 : ls[i]? = some l := by rw [List.getElem?_eq_getElem hi, e]
  have h2 : st[i]? = some (st[i]'(by have := h.len; omega)) := List.getElem?_eq_getElem _
  exact ⟨i, l, _, h1, h2, h.step i l _ h1 h2, hb⟩
theorem ChAt.head_ne {w : World} {B g : Nat} {v : Value} {ls : List Lay} {st : List Step} (h : ChAt w B g v ls st) {k : Nat} {t : TypeId} {cs : Array Value} (hb : w.heap[k]? = some (.cells cs t (0, 0))) (ht : t ≠ 47 ∧ t ≠ 67 ∧ t ≠ 68 ∧ t ≠ 3) : k ∉ ls.flatMap Lay.blocks := by
  intro hm
  obtain ⟨i, l, s, _, _, hs, hb2⟩ := h.steps hm
  exact step_ty hs hb ht hb2
/-- A chain's own blocks. -/
def Chs (g : Nat) (v : Value) (ls : List Lay) (k : Nat) : Prop := k = g ∨ v.ownBlock = some k ∨ k ∈ ls.flatMap Lay.blocks
theorem ChAt.kept {w w' : World} {B g : Nat} {v : Value} {ls : List Lay} {st : List Step} {S : Nat → Prop} (h : ChAt w B g v ls st) (k : Kept w w' S) (hs : ∀ b, Chs g v ls b → ¬ S b) : ChAt w' B g v ls st := by
  refine ⟨blk_kept h.hd k (hs g (.inl rfl)), ?_, h.base, h.len, fun i l s h1 h2 => (h.step i l s h1 h2).kept k (fun b hb => hs b (.inr (.inr (List.mem_flatMap.2 ⟨l, List.mem_of_getElem? h1, hb⟩)))), h.apart, h.okay, h.few⟩
  rcases h.row with ⟨h1, h2⟩ | ⟨b, h1, h2, h3⟩
  · exact .inl ⟨h1, h2⟩
  · exact .inr ⟨b, h1, blk_kept h2 k (hs b (.inr (.inl (by rw [h1]; rfl)))), h3⟩
theorem ChAt.below {w w' : World} {B g : Nat} {v : Value} {ls : List Lay} {st : List Step} (h : ChAt w B g v ls st) (hb : Below w.heap.size w w') : ChAt w' B g v ls st := h.kept (Kept.of_below hb (fun _ => False)) (fun _ _ h => h)
theorem ChAt.of_drawn {w w' : World} {B g : Nat} {v : Value} {ls : List Lay} {st : List Step} (h : ChAt w B g v ls st) (d : Drawn0 w w') : ChAt w' B g v ls st := by
  obtain ⟨m, rfl⟩ := d
  exact h.below (pw_below_drewN (Below.refl _ _) m)
/-- One step has turned. -/
theorem ChAt.turn {w w' : World} {B g : Nat} {v : Value} {ls : List Lay} {st : List Step} (h : ChAt w B g v ls st) {i : Nat} {l : Lay} {s : Step} (hl : ls[i]? = some l) (hs : StepAt w' B l s) (ho : Okay s) (k : Kept w w' (fun k => k ∈ l.blocks)) : ChAt w' B g v ls (st.set i s) := by
  have hmem : ∀ b ∈ l.blocks, b ∈ ls.flatMap Lay.blocks := fun b hb => List.mem_flatMap.2 ⟨l, List.mem_of_getElem? hl, hb⟩
  refine ⟨blk_kept h.hd k (fun hm => h.head_ne h.hd (by decide) (hmem _ hm)), ?_, h.base, by rw [List.length_set]; exact h.len, ?_, h.apart, ?_, h.few⟩
  · rcases h.row with ⟨h1, h2⟩ | ⟨b, h1, h2, h3⟩
    · exact .inl ⟨h1, h2⟩
    · exact .inr ⟨b, h1, blk_kept h2 k (fun hm => h.head_ne h2 (by decide) (hmem _ hm)), h3⟩
  · intro j m q hj hq
    by_cases hij : i = j
    · subst hij
      rw [hl] at hj
      obtain rfl := Option.some.inj hj
      have hlt : i < st.length := by rw [h.len]; exact (List.getElem?_eq_some_iff.1 hl).1
      rw [List.getElem?_set_self hlt] at hq
      obtain rfl := Option.some.inj hq
      exact hs
    · rw [List.getElem?_set_ne hij] at hq
      exact (h.step j m q hj hq).kept k (fun b hb => chain_blocks h.apart hl hj hij b hb)
  · intro q hq
    rcases List.mem_or_eq_of_mem_set hq with hq | rfl
    · exact h.okay q hq
    · exact ho
theorem fwd_next {st : List Step} {i : Nat} {s : Step} (y : Int) (hs : st[i]? = some s) :
    (fwd (st.take i) y).1.length = i ∧ ((fwd (st.take i) y).1 ++ st.drop i)[i]? = some s ∧
    (fwd (st.take (i + 1)) y).2 = wrap32 ((fwd (st.take i) y).2 - s.tell) ∧
    ((fwd (st.take i) y).1 ++ st.drop i).set i (s.see (fwd (st.take i) y).2 (wrap32 ((fwd (st.take i) y).2 - s.tell))) = (fwd (st.take (i + 1)) y).1 ++ st.drop (i + 1) := by
  have hi : i < st.length := (List.getElem?_eq_some_iff.1 hs).1
  have he : st[i] = s := (List.getElem?_eq_some_iff.1 hs).2
  have hl : (fwd (st.take i) y).1.length = i := by rw [fwd_length, List.length_take]; omega
  have hd : st.drop i = s :: st.drop (i + 1) := by rw [List.drop_eq_getElem_cons hi, he]
  have ht : st.take (i + 1) = st.take i ++ [s] := by rw [List.take_succ_eq_append_getElem hi, he]
  refine ⟨hl, ?_, ?_, ?_⟩
  · rw [List.getElem?_append_right (by omega), hl, Nat.sub_self, hd]
    rfl
  · rw [ht, fwd_snoc]
  · rw [ht, fwd_snoc, hd, List.set_append_right _ _ (by omega), hl, Nat.sub_self, List.set_cons_zero, List.append_assoc]
    rfl
theorem ChAt.cell {w : World} {B g b : Nat} {ls : List Lay} {st : List Step} (h : ChAt w B g (.slice (some ⟨b, 0, none⟩) ls.length ls.length) ls st) {i : Nat} {l : Lay} (hl : ls[i]? = some l) : w.cell? ⟨b, i, none⟩ = some l.val := by
  rcases h.row with ⟨h1, h2⟩ | ⟨b2, h1, h2, h3⟩
  · cases h2
  · injection h1 with h1 _ _
    injection h1 with h1
    injection h1 with h1
    subst h1
    rw [blk_cell h2, List.getElem?_toArray, List.getElem?_map, hl]
    rfl
theorem wrap_any (y : Int) (w : World) : Calls Try.prog 25 #[.int .i64 y] w fun e w' => e = .returned (.int .i64 (wrap32 y)) ∧ Drawn0 w w' := by
  have h := filter_wrap.calls y _ w rfl
  rw [wrap_id (wrap32 y) (by have := wrap32_in y; omega) (by have := wrap32_in y; omega)] at h
  exact h
set_option maxHeartbeats 8000000 in
set_option maxRecDepth 100000 in
theorem Forward_row (B g b : Nat) (ls : List Lay) (st : List Step) (x : Int) (w : World) (h : ChAt w B g (.slice (some ⟨b, 0, none⟩) ls.length ls.length) ls st) (x0 : -9223372036854775808 ≤ x) (x1 : x ≤ 9223372036854775807) :
    Calls Try.prog 10 #[.pointer (some ⟨g, 0, none⟩), .int .i64 x] w fun e w' => e = .returned (.int .i64 (fwd st (wrap32 x)).2) ∧ ChAt w' B g (.slice (some ⟨b, 0, none⟩) ls.length ls.length) ls (fwd st (wrap32 x)).1 ∧ Saw B (fun k => k ∈ ls.flatMap Lay.blocks) w w' := by
  have hup := Try.underlying24
  have c0 : w.cell? ⟨g, 0, none⟩ = some (.slice (some ⟨b, 0, none⟩) ls.length ls.length) := blk_cell h.hd 0
  have HWR := Aside0.mk (fun (y : Int) (W : World) => wrap_any y W)
  have H := Aside0.mk h
  have hfew := h.few
  clear h
  obtain ⟨y, hy⟩ : ∃ y, wrap32 x = y := ⟨_, rfl⟩
  have HY := Aside0.mk hy
  rw [hy]
  have hin := wrap32_in x
  rw [hy] at hin
  have HIN := Aside0.mk hin
  clear hin hy
  go_enter Try.func10, Try.ntmps10
  go_wp2_with fail
  refine (HWR.out _ _).mono ?_
  rintro e w1 ⟨rfl, hd⟩
  have H1 := Aside0.mk (H.out.of_drawn hd)
  have HM1 := Aside0.mk ((Saw.refl B (fun k => k ∈ ls.flatMap Lay.blocks) w).drawn hd)
  have c1 : w1.cell? ⟨g, 0, none⟩ = some (.slice (some ⟨b, 0, none⟩) ls.length ls.length) := blk_cell H1.out.hd 0
  clear hd c0
  rw [HY.out]
  have HLEN := Aside0.mk H.out.len
  go_wp2
  go_loopw [1, 17] (fun xv iv wr => ∃ i : Nat, i ≤ ls.length ∧ iv = .int .i64 i ∧ xv = .int .i64 (fwd (st.take i) y).2 ∧ Aside0 (ChAt wr B g (.slice (some ⟨b, 0, none⟩) ls.length ls.length) ls ((fwd (st.take i) y).1 ++ st.drop i)) ∧ Aside0 (Saw B (fun k => k ∈ ls.flatMap Lay.blocks) w wr)) (fun _ iv _ => ls.length - (intOf iv).toNat)
  case atStart => exact ⟨0, Nat.zero_le _, rfl, rfl, H1, HM1⟩
  case round =>
    clear H1 HM1 c1
    obtain ⟨i, hi, rfl, rfl, HC, HM⟩ := hrel
    by_cases hlt : i < ls.length
    · have i0 : (0 : Int) ≤ (i : Int) := by omega
      have i1 : (i : Int) < (ls.length : Int) := by omega
      have hl : ls[i]? = some ls[i] := List.getElem?_eq_getElem hlt
      have hs0 : st[i]? = some (st[i]'(by rw [HLEN.out]; exact hlt)) := List.getElem?_eq_getElem _
      generalize ls[i] = l at hl
      generalize st[i]'_ = s at hs0
      obtain ⟨n1, n2, n3, n4⟩ := fwd_next y hs0
      have HZ := fwd_in (st.take i) y HIN.out
      have HSA := Aside0.mk (HC.out.step i l s hl n2)
      have hok := HC.out.okay s (List.mem_of_getElem? n2)
      have HP := hok.tell
      have HOK := Aside0.mk hok
      have cb := HC.out.cell hl
      have HTN := Aside0.mk (fun (w' : World) (hs : StepAt w' B l (s.see (fwd (st.take i) y).2 (wrap32 ((fwd (st.take i) y).2 - s.tell)))) (k : Kept wr w' (fun k => k ∈ l.blocks)) => n4 ▸ HC.out.turn hl hs (hok.see _ _ HZ) k)
      have HMB := Aside0.mk (show ∀ b ∈ l.blocks, b ∈ ls.flatMap Lay.blocks from fun b hb => List.mem_flatMap.2 ⟨l, List.mem_of_getElem? hl, hb⟩)
      have HN3 := Aside0.mk n3
      clear n1 n2 n3 n4 hok
      generalize (fwd (st.take i) y).2 = z at HZ HTN HN3 ⊢
      obtain ⟨p, hp⟩ : ∃ p, s.tell = p := ⟨_, rfl⟩
      have HPE := Aside0.mk hp
      rw [hp] at HP HTN HN3
      clear hp
      obtain ⟨z1, z2⟩ := HZ
      obtain ⟨p1, p2⟩ := HP
      cases l with
      | last k =>
        have hm1 : ∀ w : World, (method 186 45 (.pointer (some ⟨k, 0, none⟩)) "lacquer/filter.foretell").run Try.prog w = .ok (48, .pointer (some ⟨k, 0, none⟩)) w := fun _ => by kernel_rfl
        have hm2 : ∀ w : World, (method 186 45 (.pointer (some ⟨k, 0, none⟩)) "lacquer/filter.see").run Try.prog w = .ok (49, .pointer (some ⟨k, 0, none⟩)) w := fun _ => by kernel_rfl
        have cb' : wr.cell? ⟨b, i, none⟩ = some (.iface 45 (.pointer (some ⟨k, 0, none⟩))) := cb
        clear cb
        go_wp2_with fail
        refine (lastF_step HSA.out HOK.out).mono ?_
        rintro e w2 ⟨rfl, hd2⟩
        rw [HPE.out]
        go_wp2_with fail
        refine (HWR.out _ _).mono ?_
        rintro e w3 ⟨rfl, hd3⟩
        have hdd := drawn_trans hd2 hd3
        have HS3 := HSA.out.of_drawn hdd
        have HSE := Aside0.mk (lastS_step HS3 z (wrap32 (z - p)))
        have HDD := Aside0.mk hdd
        clear hd2 hd3 hdd cb'
        go_wp2_with fail
        refine HSE.out.mono ?_
        rintro e w4 ⟨rfl, hs4, hm4⟩
        have HM4 := Aside0.mk ((HM.out.drawn HDD.out).trans (hm4.mono HMB.out))
        have HK4 := Aside0.mk (HTN.out w4 hs4 (by
          obtain ⟨m, hm⟩ := HDD.out
          exact (Kept.drewN (Kept.refl wr _) _).then_ (hm ▸ hm4.kept) (fun _ h => .inl h)))
        clear hs4 hm4
        go_wp2
        go_roundw
        case rel => exact ⟨i + 1, by omega, by go_num, by rw [HN3.out], HK4, HM4⟩
        case measure => simp [intOf]; omega
      | taps k kw ks =>
        have hm1 : ∀ w : World, (method 186 48 (.pointer (some ⟨k, 0, none⟩)) "lacquer/filter.foretell").run Try.prog w = .ok (50, .pointer (some ⟨k, 0, none⟩)) w := fun _ => by kernel_rfl
        have hm2 : ∀ w : World, (method 186 48 (.pointer (some ⟨k, 0, none⟩)) "lacquer/filter.see").run Try.prog w = .ok (51, .pointer (some ⟨k, 0, none⟩)) w := fun _ => by kernel_rfl
        have cb' : wr.cell? ⟨b, i, none⟩ = some (.iface 48 (.pointer (some ⟨k, 0, none⟩))) := cb
        clear cb
        go_wp2_with fail
        refine (tapsF_step HSA.out HOK.out).mono ?_
        rintro e w2 ⟨rfl, hd2⟩
        rw [HPE.out]
        go_wp2_with fail
        refine (HWR.out _ _).mono ?_
        rintro e w3 ⟨rfl, hd3⟩
        have hdd := drawn_trans hd2 hd3
        have HS3 := HSA.out.of_drawn hdd
        have HSE := Aside0.mk (tapsS_step HS3 HOK.out z (wrap32 (z - p)) (by have := wrap32_in (z - p); omega) (by have := wrap32_in (z - p); omega))
        have HDD := Aside0.mk hdd
        clear hd2 hd3 hdd cb'
        go_wp2_with fail
        refine HSE.out.mono ?_
        rintro e w4 ⟨rfl, hs4, hm4⟩
        have HM4 := Aside0.mk ((HM.out.drawn HDD.out).trans (hm4.mono HMB.out))
        have HK4 := Aside0.mk (HTN.out w4 hs4 (by
          obtain ⟨m, hm⟩ := HDD.out
          exact (Kept.drewN (Kept.refl wr _) _).then_ (hm ▸ hm4.kept) (fun _ h => .inl h)))
        clear hs4 hm4
        go_wp2
        go_roundw
        case rel => exact ⟨i + 1, by omega, by go_num, by rw [HN3.out], HK4, HM4⟩
        case measure => simp [intOf]; omega
    · obtain rfl : i = ls.length := by omega
      have hst : st.take ls.length = st := by rw [← HLEN.out, List.take_length]
      have hsd : st.drop ls.length = [] := by rw [← HLEN.out, List.drop_length]
      rw [hst, hsd, List.append_nil] at HC
      have HST := Aside0.mk hst
      clear hst hsd
      go_wp2
      go_ret
      rw [HST.out]
      exact ⟨rfl, HC.out, HM.out⟩
end Go.Proofs.Yteljaikpechbmaa.Hand
