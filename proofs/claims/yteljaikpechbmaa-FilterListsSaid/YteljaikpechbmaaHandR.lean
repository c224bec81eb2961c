/- Contracts of layer 17, proved by hand: a chain of the reference. -/
import Derived.Test.YteljaikpechbmaaHandQ
namespace Go.Proofs.Yteljaikpechbmaa.Hand
open Go.RowKit Go.Proofs.Yteljaikpechbmaa.Q Go.Proofs.YteljaikpechbmaaW.PrintWords Go.Proofs.YteljaikpechbmaaW.PrintLast Go.Proofs.YteljaikpechbmaaW.PrintMore
set_option linter.unusedVariables false
set_option linter.unusedSimpArgs false

/-- Where a step of the reference lies. -/
structure XL where
  g : Nat
  wv : Value
  sv : Value
def XL.own (r : XL) (k : Nat) : Prop := XO r.g r.wv r.sv k
def XS (ls : List XL) (k : Nat) : Prop := ∃ r, r ∈ ls ∧ r.own k
def ptrE (g : Nat) : Value := .pointer (some ⟨g, 0, none⟩)
def kP : Kd Nat := Kd.scalar ptrE (fun _ => rfl)
theorem own_block {α : Type} {d : Kd α} {e B : Nat} {w : World} {ok : Nat → Prop} {v : Value} {xs : List α} (h : Kd.R d e w B ok v xs) {k : Nat} (hk : v.ownBlock = some k) : ∃ cs, w.heap[k]? = some (.cells cs e (0, 0)) := by
  obtain ⟨inner, hown⟩ := Kd.R_own h
  rcases hown.2 with ⟨e2, h0⟩ | ⟨b, cap, cur, e2, hb, hblk, _⟩
  · rw [e2] at hk
    simp [Value.ownBlock] at hk
  · rw [e2] at hk
    simp [Value.ownBlock] at hk
    subst hk
    exact ⟨_, hblk⟩
/-- A chain of the reference: its head, the row of its steps, the steps, each in blocks of its own. -/
structure XChAt (w : World) (B g : Nat) (v : Value) (ls : List XL) (st : List Step) : Prop where
  hd : w.heap[g]? = some (.cells #[v] 53 (0, 0))
  row : Kd.R kP 54 w B (fun k => v.ownBlock = some k) v (ls.map XL.g)
  base : B ≤ g
  len : st.length = ls.length
  step : ∀ (i : Nat) (r : XL) (s : Step), ls[i]? = some r → st[i]? = some s → XStep w B r.g r.wv r.sv s
  apart : ∀ (i j : Nat) (r q : XL), i ≠ j → ls[i]? = some r → ls[j]? = some q → ∀ k, r.own k → ¬ q.own k
  okay : Okays st
  few : ls.length ≤ 3
theorem XStep.own_lt {w : World} {B g : Nat} {wv sv : Value} {s : Step} (h : XStep w B g wv sv s) {k : Nat} (hk : XO g wv sv k) : B ≤ k ∧ k < w.heap.size := by
  rcases hk with rfl | hk | hk
  · exact ⟨h.base, blk_lt h.hd⟩
  · exact ⟨Kd.R_base h.wr k hk, h.wr.lt k hk⟩
  · exact ⟨Kd.R_base h.sr k hk, h.sr.lt k hk⟩
theorem XStep.own_ty {w : World} {B g : Nat} {wv sv : Value} {s : Step} (h : XStep w B g wv sv s) {k : Nat} (hk : XO g wv sv k) {t : TypeId} {cs : Array Value} (hb : w.heap[k]? = some (.cells cs t (0, 0))) : t = 56 ∨ t = 3 := by
  rcases hk with rfl | hk | hk
  · have h1 := h.hd
    rw [hb] at h1
    injection h1 with h1
    injection h1 with _ h1
    exact .inl h1
  · obtain ⟨cs2, h1⟩ := own_block h.wr hk
    rw [hb] at h1
    injection h1 with h1
    injection h1 with _ h1
    exact .inr h1
  · obtain ⟨cs2, h1⟩ := own_block h.sr hk
    rw [hb] at h1
    injection h1 with h1
    injection h1 with _ h1
    exact .inr h1
theorem XChAt.at {w : World} {B g : Nat} {v : Value} {ls : List XL} {st : List Step} (h : XChAt w B g v ls st) {r : XL} (hr : r ∈ ls) : ∃ (i : Nat) (s : Step), ls[i]? = some r ∧ st[i]? = some s ∧ XStep w B r.g r.wv r.sv s := by
  obtain ⟨i, hi, e⟩ := List.getElem_of_mem hr
  have h1 : ls[i]? = some r := by rw [List.getElem?_eq_getElem hi, e]
  have h2 : st[i]? = some (st[i]'(by have := h.len; omega)) := List.getElem?_eq_getElem _
  exact ⟨i, _, h1, h2, h.step i r _ h1 h2⟩
theorem XChAt.own_lt {w : World} {B g : Nat} {v : Value} {ls : List XL} {st : List Step} (h : XChAt w B g v ls st) {k : Nat} (hk : XS ls k) : B ≤ k ∧ k < w.heap.size := by
  obtain ⟨r, hr, hk⟩ := hk
  obtain ⟨i, s, _, _, hs⟩ := h.at hr
  exact hs.own_lt hk
theorem XChAt.own_ty {w : World} {B g : Nat} {v : Value} {ls : List XL} {st : List Step} (h : XChAt w B g v ls st) {k : Nat} (hk : XS ls k) {t : TypeId} {cs : Array Value} (hb : w.heap[k]? = some (.cells cs t (0, 0))) : t = 56 ∨ t = 3 := by
  obtain ⟨r, hr, hk⟩ := hk
  obtain ⟨i, s, _, _, hs⟩ := h.at hr
  exact hs.own_ty hk hb
/-- All blocks of a chain. -/
def XC (g : Nat) (v : Value) (ls : List XL) (k : Nat) : Prop := k = g ∨ v.ownBlock = some k ∨ XS ls k
theorem XChAt.kept {w w' : World} {B g : Nat} {v : Value} {ls : List XL} {st : List Step} {S : Nat → Prop} (h : XChAt w B g v ls st) (k : Kept w w' S) (hs : ∀ b, XC g v ls b → ¬ S b) : XChAt w' B g v ls st :=
  ⟨blk_kept h.hd k (hs g (.inl rfl)), Kd.R_kept h.row k (fun b hb => hs b (.inr (.inl hb))), h.base, h.len,
    fun i r s h1 h2 => (h.step i r s h1 h2).kept k (hs _ (.inr (.inr ⟨r, List.mem_of_getElem? h1, .inl rfl⟩))) (fun b hb => hs _ (.inr (.inr ⟨r, List.mem_of_getElem? h1, .inr (.inl hb)⟩))) (fun b hb => hs _ (.inr (.inr ⟨r, List.mem_of_getElem? h1, .inr (.inr hb)⟩))),
    h.apart, h.okay, h.few⟩
theorem XChAt.below {w w' : World} {B g : Nat} {v : Value} {ls : List XL} {st : List Step} (h : XChAt w B g v ls st) (hb : Below w.heap.size w w') : XChAt w' B g v ls st := h.kept (Kept.of_below hb (fun _ => False)) (fun _ _ h => h)
theorem XChAt.of_drawn {w w' : World} {B g : Nat} {v : Value} {ls : List XL} {st : List Step} (h : XChAt w B g v ls st) (d : Drawn0 w w') : XChAt w' B g v ls st := h.below d.below
theorem XChAt.head_ne {w : World} {B g : Nat} {v : Value} {ls : List XL} {st : List Step} (h : XChAt w B g v ls st) {k : Nat} (hk : k = g ∨ v.ownBlock = some k) : ¬ XS ls k := by
  intro hx
  rcases hk with rfl | hk
  · have := h.own_ty hx h.hd
    revert this
    decide
  · obtain ⟨cs, hb⟩ := own_block h.row hk
    have := h.own_ty hx hb
    revert this
    decide
theorem XChAt.cell {w : World} {B g : Nat} {v : Value} {ls : List XL} {st : List Step} (h : XChAt w B g v ls st) {i : Nat} {r : XL} (hr : ls[i]? = some r) : ∃ b c, v = .slice (some ⟨b, 0, none⟩) ls.length c ∧ w.cell? ⟨b, i, none⟩ = some (.pointer (some ⟨r.g, 0, none⟩)) := by
  have hi : i < ls.length := (List.getElem?_eq_some_iff.1 hr).1
  obtain ⟨inner, hown⟩ := Kd.R_own h.row
  obtain ⟨A, c, e, _, hC⟩ := Kd.R_reads h.row
  have hr2 := Kd.reads_of_C (d := (0 : Nat)) (enc := ptrE) (h1 := fun _ => rfl) hC
  rw [List.length_map] at e hr2
  rcases hown.2 with ⟨e2, h0⟩ | ⟨b, cap, cur, e2, hb, hblk, _⟩
  · rw [List.length_map] at h0; omega
  · rw [e2] at e
    injection e with e3 e5 e4
    subst e3 e4
    obtain ⟨ad, e6, hcell⟩ := ReadsOf.at_ hr2 (i : Int) (by omega) (by omega)
    injection e6 with e6
    subst e6
    refine ⟨b, cap, by rw [e2, List.length_map], ?_⟩
    have e7 : (⟨b, 0, none⟩ : Addr).add (i : Int).toNat = ⟨b, i, none⟩ := by rw [add_plain]; simp
    rw [e7] at hcell
    rw [hcell]
    simp [rdOf, ptrE, hr]
/-- From w on to w' a chain's steps have been turned, and nothing else. -/
structure XMoved (B : Nat) (ls : List XL) (w w' : World) (ls' : List XL) : Prop where
  saw : Saw B (XS ls) w w'
  own : ∀ k, XS ls' k → XS ls k ∨ w.heap.size ≤ k
theorem XMoved.refl (B : Nat) (ls : List XL) (w : World) : XMoved B ls w w ls := ⟨Saw.refl _ _ _, fun k h => .inl h⟩
theorem XMoved.trans {B : Nat} {ls ls1 ls2 : List XL} {w w1 w2 : World} (h : XMoved B ls w w1 ls1) (k : XMoved B ls1 w1 w2 ls2) : XMoved B ls w w2 ls2 :=
  ⟨⟨h.saw.below.trans k.saw.below, h.saw.kept.then_ k.saw.kept h.own⟩, fun j hj => (k.own j hj).elim (h.own j) (fun hle => .inr (Nat.le_trans h.saw.kept.1 hle))⟩
theorem XMoved.drawn {B : Nat} {ls ls1 : List XL} {w w1 w2 : World} (h : XMoved B ls w w1 ls1) (d : Drawn0 w1 w2) : XMoved B ls w w2 ls1 := ⟨h.saw.drawn d, h.own⟩
/-- One step has turned. -/
theorem XChAt.turn {w w' : World} {B g : Nat} {v : Value} {ls : List XL} {st : List Step} (h : XChAt w B g v ls st) {i : Nat} {r : XL} {s : Step} {sv' : Value} (hr : ls[i]? = some r) (hs : XStep w' B r.g r.wv sv' s) (ho : Okay s) (hm : Saw B (XO r.g r.wv r.sv) w w') (hf : ∀ k, sv'.ownBlock = some k → w.heap.size ≤ k) :
    XChAt w' B g v (ls.set i ⟨r.g, r.wv, sv'⟩) (st.set i s) ∧ XMoved B ls w w' (ls.set i ⟨r.g, r.wv, sv'⟩) ∧ (ls.set i ⟨r.g, r.wv, sv'⟩).map XL.g = ls.map XL.g := by
  have hi : i < ls.length := (List.getElem?_eq_some_iff.1 hr).1
  have hmem : r ∈ ls := List.mem_of_getElem? hr
  have hxs : ∀ k, XO r.g r.wv r.sv k → XS ls k := fun k hk => ⟨r, hmem, hk⟩
  have hnew : ∀ k, (⟨r.g, r.wv, sv'⟩ : XL).own k → r.own k ∨ w.heap.size ≤ k := by
    intro k hk
    rcases hk with hk | hk | hk
    · exact .inl (.inl hk)
    · exact .inl (.inr (.inl hk))
    · exact .inr (hf k hk)
  have hgs : (ls.set i ⟨r.g, r.wv, sv'⟩).map XL.g = ls.map XL.g := by
    rw [List.map_set]
    apply List.ext_getElem?
    intro j
    by_cases hj : i = j
    · subst hj
      rw [List.getElem?_set_self (by simpa using hi), List.getElem?_map, hr]
      rfl
    · rw [List.getElem?_set_ne hj]
  refine ⟨⟨blk_kept h.hd hm.kept (fun hx => h.head_ne (.inl rfl) (hxs g hx)), ?_, h.base, by rw [List.length_set, List.length_set]; exact h.len, ?_, ?_, ?_, by rw [List.length_set]; exact h.few⟩, ⟨⟨hm.below, hm.kept.mono hxs⟩, ?_⟩, hgs⟩
  · rw [hgs]
    exact Kd.R_kept h.row hm.kept (fun b hb hx => h.head_ne (.inr hb) (hxs b hx))
  · intro j q z hq hz
    by_cases hj : i = j
    · subst hj
      rw [List.getElem?_set_self hi] at hq
      rw [List.getElem?_set_self (by rw [h.len]; exact hi)] at hz
      obtain rfl := Option.some.inj hq
      obtain rfl := Option.some.inj hz
      exact hs
    · rw [List.getElem?_set_ne hj] at hq hz
      have ha := h.apart j i q r (fun e => hj e.symm) hq hr
      exact (h.step j q z hq hz).kept hm.kept (ha q.g (.inl rfl)) (fun b hb => ha b (.inr (.inl hb))) (fun b hb => ha b (.inr (.inr hb)))
  · intro j m q p hjm hq hp k hk1 hk2
    by_cases hj : i = j
    · subst hj
      rw [List.getElem?_set_self hi] at hq
      rw [List.getElem?_set_ne hjm] at hp
      obtain rfl := Option.some.inj hq
      rcases hnew k hk1 with hk1 | hk1
      · exact h.apart i m r p hjm hr hp k hk1 hk2
      · have := (h.own_lt ⟨p, List.mem_of_getElem? hp, hk2⟩).2
        omega
    · by_cases hm2 : i = m
      · subst hm2
        rw [List.getElem?_set_self hi] at hp
        rw [List.getElem?_set_ne hj] at hq
        obtain rfl := Option.some.inj hp
        rcases hnew k hk2 with hk2 | hk2
        · exact h.apart j i q r hjm hq hr k hk1 hk2
        · have := (h.own_lt ⟨q, List.mem_of_getElem? hq, hk1⟩).2
          omega
      · rw [List.getElem?_set_ne hj] at hq
        rw [List.getElem?_set_ne hm2] at hp
        exact h.apart j m q p hjm hq hp k hk1 hk2
  · intro q hq
    rcases List.mem_or_eq_of_mem_set hq with hq | rfl
    · exact h.okay q hq
    · exact ho
  · rintro k ⟨q, hq, hk⟩
    rcases List.mem_or_eq_of_mem_set hq with hq | rfl
    · exact .inl ⟨q, hq, hk⟩
    · rcases hnew k hk with hk | hk
      · exact .inl ⟨r, hmem, hk⟩
      · exact .inr hk
theorem xwrap_any (y : Int) (w : World) : Calls Try.prog 26 #[.int .i64 y] w fun e w' => e = .returned (.int .i64 (wrap32 y)) ∧ Drawn0 w w' := by
  have h := lacquerref17_wrap.calls y _ w rfl
  rw [wrap_id (wrap32 y) (by have := wrap32_in y; omega) (by have := wrap32_in y; omega)] at h
  exact h
theorem xtell_any (s : Step) (B g : Nat) (wv sv : Value) (ho : Okay s) (w : World) (h : XStep w B g wv sv s) :
    Calls Try.prog 27 #[.pointer (some ⟨g, 0, none⟩)] w fun e w' => e = .returned (.int .i64 s.tell) ∧ Drawn0 w w' := by
  by_cases h0 : s.W.length = 0
  · exact xtell_first s B g wv sv ho h0 w h
  · exact xtell_taps s B g wv sv ho h0 w h
end Go.Proofs.Yteljaikpechbmaa.Hand
