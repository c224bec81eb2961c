/- Texts of this claim's proof, laid behind each other by a program of ours, without what the proof does not reach: What an argument reads as, kind by kind: numbers, strings, slices, structs, one within the other; Words for states that lie in a block and hold a row of their own: what a call moves; Plain words of layer 1: rows of bits, and their bytes; Contracts of layer 1, proved by hand: a writer's bit; Contracts of layer 1, proved by hand: a writer's lay, New, Len, Bytes; Contracts of layer 1, proved by hand: a writer's Put, Signed, Align; Contracts of layer 1, proved by hand: a writer's unary; Printed by a program of ours (pp.sh), partly over contracts proved by hand; Printed by a program of ours (pp.sh), partly over contracts proved by hand; Printed by a program of ours (pp.sh), partly over contracts proved by hand -/
import Derived.Test.YtfhekkoibmlmpaaRows
import Derived.WalkKit
import Derived.ProofKit
import Derived.OpenShut
import Derived.ShutString
import Derived.ChangeOld
import Derived.Below
import Derived.ChangeArms
import Derived.SizedLaws
import Derived.Deep.Slices
import Derived.Deep.Fields
import Derived.Test.YtfhekkoibmlmpaaProg
import Derived.KernelRfl
import Derived.BigRegion
import Derived.Deep.LoopGhost
import Derived.Deep.Draws
import Derived.Deep.QuietTactic
import Derived.BigQuiet
import Derived.Deep.RegionLaw
import Derived.Deep.RegionHeld3
import Derived.StillTailTactics
import Derived.Lib.SliceRun
import Derived.Carry
import Derived.Deep.DeepCutAuto
import Derived.Laws.BytesArg
import Derived.Deep.AppendLies
import Derived.Maps.AppendAt
import Derived.OwnWalk
import Derived.Laws.MakeOwn
import Derived.Laws.OwnMore
import Derived.Deep.OwnRows
import Derived.Tactics
import Derived.Lib.ConvBytes
import Derived.Laws.Slices
import Derived.RowKit3
import Derived.WideLaws
import Derived.Deep.CutBlock
import Derived.Laws.Rows
import Derived.Lib.AppendStr
import Derived.ArgAppend
import Derived.Laws.IdiomCopy
import Derived.OrdersHeld
import Derived.Laws.BitsLemmas
import Derived.RowKit
import Derived.Laws.StructEq
import Derived.Test.YtfhekkoibmlmpaaEncWApart
import Derived.Test.YtfhekkoibmlmpaaEncWFoot
import Derived.Test.YtfhekkoibmlmpaaEncWGuard
import Derived.Test.YtfhekkoibmlmpaaEncWInv
import Derived.Test.YtfhekkoibmlmpaaEncWKept
import Derived.Test.YtfhekkoibmlmpaaEncWLast
import Derived.Test.YtfhekkoibmlmpaaEncWMore
import Derived.Test.YtfhekkoibmlmpaaEncWN
import Derived.Test.YtfhekkoibmlmpaaEncWRepsOne
import Derived.Test.YtfhekkoibmlmpaaEncWShare
import Derived.Test.YtfhekkoibmlmpaaEncWTab
import Derived.Test.YtfhekkoibmlmpaaEncWWords
/- What an argument reads as, kind by kind: numbers, strings, slices, structs, one within the other. -/
namespace Go.Proofs.Ytfhekkoibmlmpaa.Op
open Go.ChangeShapes Go.WideShapes Go.ChangeAt Go.RowKit Go.Deep Go.Proofs.YtfhekkoibmlmpaaW.PrintWords
set_option linter.unusedVariables false
set_option linter.unusedSimpArgs false

/-- A kind is read off an argument of a type: R holds of what is read; G, where no string and no slice is too great; z: no more than its bulk. -/
def Opens {α : Type} (P : Program) (d : Kd α) (t : TypeId) (R G : α → Prop) (z : α → Nat) : Prop :=
  ∀ (H : Type) (enc : TypeId × Value → H) (w : World) (base : Nat) (spare : Nat → Bool) (held : Bool) (fuel : Nat) (cs : List Value) (x : DataW H × List MemPlace),
    DataW.trod enc P w base spare held fuel t cs = some x → ∃ y, d.K w y cs ∧ R y ∧ ((∀ n ∈ x.1.weights P t, n ≤ reachBytes) → G y) ∧ z y ≤ Rows.uptoBulk x.1
theorem op_int {P : Program} {t : TypeId} {k : IntKind} (lo hi : Int) (ht : P.underlying t = some (.int k)) (hs : ∀ n : Int, (Lit.int k n).wf = true → lo ≤ n ∧ n ≤ hi) : Opens P (Kd.int k) t (fun n => lo ≤ n ∧ n ≤ hi) (fun _ => True) (fun _ => 1) := by
  intro H enc w base spare held fuel cs x h
  obtain ⟨n, rfl, rfl, hw⟩ := DataW.trod_int ht h
  exact ⟨n, rfl, hs n hw, fun _ => trivial, by simp [Rows.uptoBulk]⟩
theorem bulkAll_ge {H : Type} : ∀ (ds : List (DataW H)) (f : Nat → Nat), (∀ i (h : i < ds.length), f i ≤ Rows.uptoBulk ds[i]) → ((List.range ds.length).map f).sum ≤ Rows.uptoBulkAll ds
  | [], f, h => by simp [Rows.uptoBulkAll]
  | d :: r, f, h => by
    have h0 := h 0 (by simp)
    have ih := bulkAll_ge r (fun i => f (i + 1)) (fun i hi => h (i + 1) (by simpa using hi))
    have e : ((List.range (d :: r).length).map f).sum = f 0 + ((List.range r.length).map fun i => f (i + 1)).sum := by
      rw [List.length_cons, List.range_succ_eq_map, List.map_cons, List.sum_cons, List.map_map]
      rfl
    rw [e]
    simp only [Rows.uptoBulkAll]
    have h0' : f 0 ≤ Rows.uptoBulk d := h0
    omega
theorem weightsAll_mem {H : Type} {P : Program} {e : TypeId} {d : DataW H} {n : Nat} : ∀ {l : List (DataW H)}, d ∈ l → n ∈ d.weights P e → n ∈ DataW.weightsAll P e l
  | [], h, _ => by cases h
  | a :: r, h, hn => by
    simp only [DataW.weightsAll, List.mem_append]
    rcases List.mem_cons.1 h with rfl | h
    · exact .inl hn
    · exact .inr (weightsAll_mem h hn)
theorem op_choose {α : Type} {n : Nat} {p : Nat → α → Prop} [Nonempty α] (h : ∀ i, i < n → ∃ y, p i y) : ∃ f : Nat → α, ∀ i, i < n → p i (f i) := by
  refine ⟨fun i => if hi : i < n then (h i hi).choose else Classical.choice inferInstance, fun i hi => ?_⟩
  simp only [hi, dif_pos]
  exact (h i hi).choose_spec
theorem op_slice {α : Type} [Nonempty α] {P : Program} {d : Kd α} {t e : TypeId} {R G : α → Prop} {z : α → Nat} (B : Nat) (ht : P.underlying t = some (.slice e)) (he : P.cellsOf e = d.sz) (hB : P.bytesOf e = B) (h : Opens P d e R G z) :
    Opens P (Kd.slice e d) t (fun ys => ys.length ≤ 9223372036854775807 ∧ ∀ y ∈ ys, R y) (fun ys => ys.length * B ≤ 140737488351232 ∧ ∀ y ∈ ys, G y) (fun ys => (ys.map z).sum + 1) := by
  intro H enc w base spare held fuel cs x hx
  rcases DataW.trod_slice ht hx with ⟨rfl, rfl⟩ | ⟨a, len, cap, elems, rest, n, rfl, rfl, rfl, hb, hlc, hcm, hlen, hel, _, _⟩
  · exact ⟨[], ⟨none, 0, rfl, Nat.le_refl _, rfl, Nat.zero_le _, fun h0 => absurd h0 (Nat.lt_irrefl _)⟩, ⟨Nat.zero_le _, by simp⟩, fun _ => ⟨by simp, by simp⟩, by simp [Rows.uptoBulk]⟩
  · have hm : len ≤ 9223372036854775807 := Nat.le_trans hlc hcm
    have each : ∀ i, i < len → ∃ y, ∃ cs' x', w.cells? base (a.add (i * P.cellsOf e)) (P.cellsOf e) = some cs' ∧ elems[i]? = some x' ∧ d.K w y cs' ∧ R y ∧ ((∀ n ∈ x'.1.weights P e, n ≤ reachBytes) → G y) ∧ z y ≤ Rows.uptoBulk x'.1 := fun i hi => by
      have h1 := hel i hi
      rw [List.getElem?_eq_getElem (by omega)] at h1
      obtain ⟨cs', h2, h3⟩ := Option.bind_eq_some_iff.1 h1
      obtain ⟨y, h4⟩ := h H enc w base spare held n cs' _ h3
      exact ⟨y, cs', _, h2, List.getElem?_eq_getElem (by omega), h4⟩
    obtain ⟨Y, hY⟩ := op_choose each
    have hl : ((List.range len).map Y).length = len := by simp
    have hmem : ∀ y ∈ (List.range len).map Y, ∃ i, i < len ∧ y = Y i := fun y hy => by
      obtain ⟨i, hi, rfl⟩ := List.mem_map.1 hy
      exact ⟨i, List.mem_range.1 hi, rfl⟩
    refine ⟨(List.range len).map Y, ⟨some a, cap, by rw [hl], by rw [hl]; exact hlc, rfl, by rw [hl]; exact hm, fun _ => ⟨a, rfl, fun j p hp => ?_⟩⟩, ⟨by rw [hl]; exact hm, fun y hy => ?_⟩, fun hw => ⟨?_, fun y hy => ?_⟩, ?_⟩
    · have hj : j < len := by
        rcases Nat.lt_or_ge j len with h0 | h0
        · exact h0
        · rw [List.getElem?_eq_none (by rw [hl]; exact h0)] at hp
          cases hp
      have hp' : p = Y j := by
        rw [List.getElem?_eq_getElem (by rw [hl]; exact hj)] at hp
        simpa using (Option.some.inj hp).symm
      subst hp'
      obtain ⟨cs', x', h2, _, hK, _⟩ := hY j hj
      obtain ⟨_, hcl, hcell⟩ := World.cells?_some h2
      refine ⟨cs', d.K_len hK, hK, fun i u hu => ?_⟩
      have hi : i < cs'.length := (List.getElem?_eq_some_iff.1 hu).1
      have hc := hcell i (by omega)
      rw [Go.Deep.add_add, he] at hc
      rw [hc, ← hu]
    · obtain ⟨i, hi, rfl⟩ := hmem y hy
      obtain ⟨cs', x', _, _, _, hR, _⟩ := hY i hi
      exact hR
    · have := hw ((elems.length + rest.length) * P.bytesOf e) (by simp [DataW.weights, ht])
      rw [hB] at this
      rw [hl, ← hlen]
      exact Nat.le_trans (Nat.mul_le_mul_right _ (by omega)) this
    · obtain ⟨i, hi, rfl⟩ := hmem y hy
      obtain ⟨cs', x', _, hx', _, _, hG, _⟩ := hY i hi
      refine hG (fun n hn => hw n ?_)
      simp only [DataW.weights, ht, List.mem_cons, List.mem_append]
      exact .inr (.inl (weightsAll_mem (List.mem_map.2 ⟨x', List.mem_of_getElem? hx', rfl⟩) hn))
    · have := bulkAll_ge (elems.map (·.1)) (fun i => z (Y i)) (fun i hi => by
        have hi' : i < len := by rw [List.length_map] at hi; omega
        obtain ⟨cs', x', _, hx', _, _, _, hz⟩ := hY i hi'
        rw [List.getElem?_eq_getElem (by omega)] at hx'
        have hx2 := Option.some.inj hx'
        rw [List.getElem_map, hx2]
        exact hz)
      rw [List.length_map, hlen] at this
      simp only [Rows.uptoBulk, List.map_map]
      have e : ((List.range len).map (z ∘ Y)).sum = ((List.range len).map fun i => z (Y i)).sum := rfl
      omega

/-- The same of the fields of a struct, one behind the other. -/
def OpensF {α : Type} (P : Program) (d : Kd α) (ts : List TypeId) (R G : α → Prop) (z : α → Nat) : Prop :=
  ∀ (H : Type) (enc : TypeId × Value → H) (w : World) (base : Nat) (spare : Nat → Bool) (held : Bool) (fuel : Nat) (cs : List Value) (xs : List (DataW H × List MemPlace)),
    xs.length = ts.length → cs.length = (ts.map P.cellsOf).sum → (∀ i t, ts[i]? = some t → DataW.trod enc P w base spare held fuel t ((cs.drop ((ts.take i).map P.cellsOf).sum).take (P.cellsOf t)) = xs[i]?) →
    ∃ y, d.K w y cs ∧ R y ∧ ((∀ n ∈ DataW.weightsEach P ts (xs.map (·.1)), n ≤ reachBytes) → G y) ∧ z y ≤ Rows.uptoBulkAll (xs.map (·.1))
theorem opF_one {α : Type} {P : Program} {d : Kd α} {t : TypeId} {R G : α → Prop} {z : α → Nat} (h : Opens P d t R G z) : OpensF P d [t] R G z := by
  intro H enc w base spare held fuel cs xs hx hc ht
  have h0 := ht 0 t rfl
  obtain ⟨x, rfl⟩ : ∃ x, xs = [x] := by
    match xs, hx with
    | [x], _ => exact ⟨x, rfl⟩
  have hcs : (cs.drop (([t].take 0).map P.cellsOf).sum).take (P.cellsOf t) = cs := by
    simp only [List.map_cons, List.map_nil, List.sum_cons, List.sum_nil, Nat.add_zero] at hc
    simp only [List.take_zero, List.map_nil, List.sum_nil, List.drop_zero]
    rw [← hc, List.take_length]
  rw [hcs] at h0
  obtain ⟨y, h1, h2, h3, h4⟩ := h H enc w base spare held fuel cs x h0
  refine ⟨y, h1, h2, fun hw => h3 (fun n hn => hw n ?_), ?_⟩
  · simp [DataW.weightsEach, hn]
  · simp only [List.map_cons, List.map_nil, Rows.uptoBulkAll]
    omega
theorem opF_cons {α β : Type} {P : Program} {a : Kd α} {b : Kd β} {t : TypeId} {ts : List TypeId} {Ra Ga : α → Prop} {za : α → Nat} {Rb Gb : β → Prop} {zb : β → Nat} (h : Opens P a t Ra Ga za) (hs : OpensF P b ts Rb Gb zb) :
    OpensF P (Kd.pair a b) (t :: ts) (fun y => Ra y.1 ∧ Rb y.2) (fun y => Ga y.1 ∧ Gb y.2) (fun y => za y.1 + zb y.2) := by
  intro H enc w base spare held fuel cs xs hx hc ht
  obtain ⟨x, xs', rfl⟩ : ∃ x r, xs = x :: r := by
    match xs, hx with
    | x :: r, _ => exact ⟨x, r, rfl⟩
  have h0 := ht 0 t rfl
  have hcs : (cs.drop (((t :: ts).take 0).map P.cellsOf).sum).take (P.cellsOf t) = cs.take (P.cellsOf t) := by simp
  rw [hcs] at h0
  obtain ⟨y, h1, h2, h3, h4⟩ := h H enc w base spare held fuel _ x h0
  simp only [List.map_cons, List.sum_cons] at hc
  obtain ⟨y2, k1, k2, k3, k4⟩ := hs H enc w base spare held fuel (cs.drop (P.cellsOf t)) xs' (by simpa using hx) (by rw [List.length_drop]; omega) (fun i u hi => by
    have := ht (i + 1) u (by simpa using hi)
    simp only [List.take_succ_cons, List.map_cons, List.sum_cons, List.getElem?_cons_succ] at this
    rw [List.drop_drop]
    exact this)
  refine ⟨(y, y2), ⟨cs.take (P.cellsOf t), cs.drop (P.cellsOf t), (List.take_append_drop _ _).symm, h1, k1⟩, ⟨h2, k2⟩, fun hw => ⟨h3 (fun n hn => hw n ?_), k3 (fun n hn => hw n ?_)⟩, ?_⟩
  · simp only [List.map_cons, DataW.weightsEach, List.mem_append]
    exact .inl hn
  · simp only [List.map_cons, DataW.weightsEach, List.mem_append]
    exact .inr hn
  · simp only [List.map_cons, Rows.uptoBulkAll]
    omega
/-- The fields lie one behind the other. -/
def laidF (P : Program) (t : TypeId) (fs : Array Field) : Bool :=
  (P.cellsOf t == ((fs.toList.map (·.type)).map P.cellsOf).sum) && (List.range fs.size).all fun i => match fs[i]? with | some f => f.offset == (((fs.toList.map (·.type)).take i).map P.cellsOf).sum | none => true
theorem op_struct {α : Type} {P : Program} {d : Kd α} {t : TypeId} {fs : Array Field} {ts : List TypeId} {R G : α → Prop} {z : α → Nat} (ht : P.underlying t = some (.struct fs)) (hl : laidF P t fs = true) (hts : fs.toList.map (·.type) = ts) (h : OpensF P d ts R G z) :
    Opens P d t R G (fun y => z y + 1) := by
  intro H enc w base spare held fuel cs x hx
  obtain ⟨xs, n, rfl, rfl, hcl, hxl, hf⟩ := DataW.trod_struct ht hx
  simp only [laidF, Bool.and_eq_true, beq_iff_eq, List.all_eq_true, List.mem_range] at hl
  obtain ⟨hl1, hl2⟩ := hl
  subst hts
  have hfl : fs.toList.length = fs.size := Array.length_toList
  obtain ⟨y, h1, h2, h3, h4⟩ := h H enc w base spare held n cs xs (by rw [hxl, List.length_map, hfl]) (by rw [hcl, hl1]) (fun i u hi => by
    rw [List.getElem?_map] at hi
    obtain ⟨f, hf1, hf2⟩ := Option.map_eq_some_iff.1 hi
    have hf3 : fs[i]? = some f := by rw [← hf1, Array.getElem?_toList]
    have hi' : i < fs.size := (Array.getElem?_eq_some_iff.1 hf3).1
    have := hl2 i hi'
    rw [hf3] at this
    have e := hf i f hf3
    rw [beq_iff_eq.1 this, hf2] at e
    exact e)
  refine ⟨y, h1, h2, fun hw => h3 (fun n hn => hw n ?_), ?_⟩
  · simp only [DataW.weights, ht]
    exact hn
  · simp only [Rows.uptoBulk]
    omega
theorem weights_of {H : Type} {P : Program} {ts : List TypeId} {ds : List (DataW H)} {j : Nat} {t : TypeId} {d : DataW H} (hsz : (DataW.weightsEach P ts ds).all (· ≤ reachBytes) = true) (ht : ts[j]? = some t) (hd : ds[j]? = some d) : ∀ n ∈ d.weights P t, n ≤ reachBytes := fun n hn => by
  have := List.all_eq_true.1 hsz _ (DataW.weights_mem_each ht hd n hn)
  simpa using this
end Go.Proofs.Ytfhekkoibmlmpaa.Op

/- Words for states that lie in a block and hold a row of their own: what a call moves. -/
namespace Go.Proofs.Ytfhekkoibmlmpaa.Hand
open Go.RowKit Go.Proofs.YtfhekkoibmlmpaaW.PrintWords Go.Proofs.YtfhekkoibmlmpaaW.PrintLast Go.Proofs.YtfhekkoibmlmpaaW.PrintMore
set_option linter.unusedVariables false
set_option linter.unusedSimpArgs false

/-- The lowest bits of a number. -/
theorem and_mask_u64 (k : Nat) (hk : k ≤ 64) (x m : Int) (h0 : 0 ≤ x) (h1 : x < 18446744073709551616) (hm : m = 2 ^ k - 1) : Go.bits .and .u64 x m = x % 2 ^ k := by
  have e : Go.bits .and .u64 x m = IntKind.u64.wrap ((BitVec.ofInt 64 x &&& BitVec.ofInt 64 m).toNat : Int) := rfl
  have hp : (2 : Int) ^ k = ((2 ^ k : Nat) : Int) := by simp
  have hle : 2 ^ k ≤ 2 ^ 64 := Nat.pow_le_pow_right (by decide) hk
  have hpos := Nat.two_pow_pos k
  have e1 : (BitVec.ofInt 64 x).toNat = x.toNat := by rw [BitVec.toNat_ofInt]; omega
  have e2 : (BitVec.ofInt 64 m).toNat = 2 ^ k - 1 := by rw [BitVec.toNat_ofInt, hm, hp]; omega
  rw [e, BitVec.toNat_and, e1, e2, Nat.and_two_pow_sub_one_eq_mod, hp]
  have hlt : x.toNat % 2 ^ k < 2 ^ k := Nat.mod_lt _ hpos
  have e3 : ((x.toNat % 2 ^ k : Nat) : Int) = x % ((2 ^ k : Nat) : Int) := by
    rw [Int.natCast_emod, Int.toNat_of_nonneg h0]
  have e4 : IntKind.u64.wrap ((x.toNat % 2 ^ k : Nat) : Int) = ((x.toNat % 2 ^ k : Nat) : Int) := by
    simp only [IntKind.wrap, IntKind.bits, IntKind.signed]
    simp
    omega
  rw [e4, e3]
theorem u8_wrap (x : Int) : IntKind.u8.wrap x = x % 256 := by simp [IntKind.wrap, IntKind.bits, IntKind.signed]
theorem u64_wrap (x : Int) : IntKind.u64.wrap x = x % 18446744073709551616 := by simp [IntKind.wrap, IntKind.bits, IntKind.signed]
theorem wrap_id (x : Int) (h : -9223372036854775808 ≤ x) (h2 : x ≤ 9223372036854775807) : wrap64 x = x := by unfold wrap64; omega
/-- From w on to w', a state in block g whose row was v and is v': nothing else has been turned. -/
structure Moved (B g : Nat) (w : World) (v : Value) (w' : World) (v' : Value) : Prop where
  below : Below B w w'
  kept : Kept w w' (fun k => k = g ∨ v.ownBlock = some k)
  own : ∀ k, v'.ownBlock = some k → v.ownBlock = some k ∨ w.heap.size ≤ k
theorem Moved.refl (B g : Nat) (w : World) (v : Value) : Moved B g w v w v := ⟨Below.refl _ _, Kept.refl _ _, fun _ h => .inl h⟩
theorem Moved.trans {B g : Nat} {w w1 w2 : World} {v v1 v2 : Value} (h : Moved B g w v w1 v1) (k : Moved B g w1 v1 w2 v2) : Moved B g w v w2 v2 :=
  ⟨h.below.trans k.below, h.kept.then_ k.kept (fun i hi => by
    rcases hi with rfl | hi
    · exact .inl (.inl rfl)
    · exact (h.own i hi).imp .inr id), fun i hi => (k.own i hi).elim (fun h1 => h.own i h1) (fun h1 => .inr (Nat.le_trans h.kept.1 h1))⟩
theorem Moved.new {B g : Nat} {w w1 w2 : World} {v v1 : Value} (h : Moved B g w v w1 v1) (k : Below w1.heap.size w1 w2) (hB : B ≤ w1.heap.size) : Moved B g w v w2 v1 :=
  ⟨h.below.trans (k.mono hB), h.kept.below k, h.own⟩
theorem Moved.drew {B g : Nat} {w w1 : World} {v v1 : Value} (h : Moved B g w v w1 v1) : Moved B g w v w1.drew v1 := ⟨below_drew h.below, h.kept.drew, h.own⟩
theorem Moved.drewN {B g : Nat} {w w1 : World} {v v1 : Value} (h : Moved B g w v w1 v1) (m : Nat) : Moved B g w v (w1.drewN m) v1 := ⟨pw_below_drewN h.below m, h.kept.drewN m, h.own⟩
theorem Moved.set {B g : Nat} {w w1 : World} {v v1 : Value} (h : Moved B g w v w1 v1) (hB : B ≤ g) (j : Nat) (u : Value) : Moved B g w v (w1.setCell ⟨g, j, none⟩ u) v1 :=
  ⟨h.below.setCell hB u, h.kept.setCell (p := ⟨g, j, none⟩) (.inl (.inl rfl)) u, h.own⟩
theorem Moved.app {B g : Nat} {w W w1 : World} {v u u1 : Value} (h : Moved B g w v W u) (hg : W.grownBy w1 u.ownBlock) (hb : Below B w w1) (ho : u1.ownBlock = u.ownBlock ∨ ∃ b, u1.ownBlock = some b ∧ W.heap.size ≤ b) : Moved B g w v w1 u1 :=
  ⟨hb, h.kept.of_grown hg (fun k hk => (h.own k hk).imp .inr id), fun k hk => by
    rcases ho with e | ⟨b, e, hle⟩
    · exact h.own k (e ▸ hk)
    · rw [hk] at e
      injection e with e
      subst e
      exact .inr (Nat.le_trans h.kept.1 hle)⟩
/-- Another state: its block and its row are none of what was turned. -/
def Apart (g : Nat) (v : Value) (g2 : Nat) (v2 : Value) : Prop := g ≠ g2 ∧ v2.ownBlock ≠ some g ∧ v.ownBlock ≠ some g2 ∧ ∀ k, v.ownBlock = some k → v2.ownBlock ≠ some k
theorem Apart.symm {g g2 : Nat} {v v2 : Value} (h : Apart g v g2 v2) : Apart g2 v2 g v := ⟨h.1.symm, h.2.2.1, h.2.1, fun k hk hk2 => h.2.2.2 k hk2 hk⟩
theorem Apart.moved {B g g2 : Nat} {w w' : World} {v v' v2 : Value} (h : Apart g v g2 v2) (hm : Moved B g w v w' v') (hg2 : g2 < w.heap.size) (hv2 : ∀ k, v2.ownBlock = some k → k < w.heap.size) : Apart g v' g2 v2 :=
  ⟨h.1, h.2.1, fun e => (hm.own g2 e).elim h.2.2.1 (fun hle => absurd hle (by omega)), fun k hk hk2 => (hm.own k hk).elim (fun h1 => h.2.2.2 k h1 hk2) (fun hle => absurd hle (by have := hv2 k hk2; omega))⟩
theorem Apart.block {B g g2 : Nat} {w w' : World} {v v' v2 : Value} {o : Obj} (h : Apart g v g2 v2) (hm : Moved B g w v w' v') (hb : w.heap[g2]? = some o) : w'.heap[g2]? = some o :=
  blk_kept hb hm.kept (fun hk => hk.elim (fun e => h.1 e.symm) h.2.2.1)
theorem Apart.row {α : Type} {d : Kd α} {e base B g g2 : Nat} {w w' : World} {v v' v2 : Value} {xs : List α} (h : Apart g v g2 v2) (hm : Moved B g w v w' v') (hr : d.R e w base (fun k => v2.ownBlock = some k) v2 xs) : d.R e w' base (fun k => v2.ownBlock = some k) v2 xs :=
  Kd.R_kept hr hm.kept (fun k hk hs => hs.elim (fun e => h.2.1 (e ▸ hk)) (fun h1 => h.2.2.2 k h1 hk))
/-- A row of bytes of one's own. -/
def BytesAt (w : World) (B : Nat) (v : Value) (xs : List Int) : Prop := Kd.R (Kd.int .u8) 5 w B (fun k => v.ownBlock = some k) v xs
theorem BytesAt.of {w : World} {B : Nat} {ok : Nat → Prop} {v : Value} {xs : List Int} (h : Kd.R (Kd.int .u8) 5 w B ok v xs) : BytesAt w B v xs := by
  obtain ⟨h0, inner, hown, hr⟩ := h
  exact ⟨fun k hk => hk, inner, hown, hr.imp_ (fun _ _ hm => hm)⟩
theorem BytesAt.all {w : World} {B : Nat} {v : Value} {xs : List Int} (h : BytesAt w B v xs) : Kd.R (Kd.int .u8) 5 w B (fun _ => True) v xs := Kd.R_mono h (fun _ _ => trivial)
theorem BytesAt.nil (w : World) (B : Nat) : BytesAt w B (.slice none 0 0) [] := Kd.R_nil _ _ _ _ _
theorem BytesAt.below {w w' : World} {B : Nat} {v : Value} {xs : List Int} (h : BytesAt w B v xs) (hb : Below w.heap.size w w') : BytesAt w' B v xs := Kd.R_below h hb
theorem BytesAt.set {w : World} {B : Nat} {v : Value} {xs : List Int} (h : BytesAt w B v xs) {g t : Nat} {cells : Array Value} (hb : w.heap[g]? = some (.cells cells t (0, 0))) (ht : t ≠ 5) (j : Nat) (u : Value) : BytesAt (w.setCell ⟨g, j, none⟩ u) B v xs :=
  .of (Kd.R_set h.all hb (fun q hq => by
    have : q = 5 := by simpa [Kd.int, Kd.scalar] using hq
    rw [this]; exact fun e => ht e.symm) j u)
theorem BytesAt.lt {w : World} {B : Nat} {v : Value} {xs : List Int} (h : BytesAt w B v xs) : ∀ k, v.ownBlock = some k → k < w.heap.size := fun k hk => Kd.R_lt h k hk
theorem BytesAt.slice {w : World} {B : Nat} {v : Value} {xs : List Int} {y : Int} (h : BytesAt w B v (xs ++ [y])) : ∃ A c, v = .slice A (xs.length + 1) c := by
  obtain ⟨A, c, e⟩ := Kd.R_slice h
  rw [List.length_append] at e
  exact ⟨A, c, e⟩
theorem BytesAt.text {w : World} {B : Nat} {v : Value} {xs : List Int} (h : BytesAt w B v xs) : (convert 31 9 v).run Try.prog w = .ok (.string (strOfNums xs)) w := by
  obtain ⟨A, c, rfl, hl, hc⟩ := Kd.R_reads h
  exact Kd.C_string Try.underlying31 Try.underlying5 Try.underlying9 hc
/-- Byte i of a row. -/
theorem BytesAt.place {w : World} {B : Nat} {v : Value} {xs : List Int} (h : BytesAt w B v xs) (i : Nat) (hi : i < xs.length) :
    ∃ b c, v = .slice (some ⟨b, 0, none⟩) xs.length c ∧ w.cell? ⟨b, i, none⟩ = some (.int .u8 (xs.getD i 0)) ∧ w.frozen? ⟨b, i, none⟩ = false ∧ B ≤ b ∧ b < w.heap.size := by
  obtain ⟨inner, hown⟩ := Kd.R_own h
  obtain ⟨A, c, e, _, hC⟩ := Kd.R_reads h
  have hr := Kd.reads_of_C (d := (0 : Int)) (enc := Value.int .u8) hC
  rcases hown.2 with ⟨e2, h0⟩ | ⟨b, cap, cur, e2, hb, hblk, _⟩
  · omega
  · rw [e2] at e
    injection e with e3 _ e4
    subst e3 e4
    obtain ⟨ad, e5, hcell⟩ := ReadsOf.at_ hr (i : Int) (by omega) (by omega)
    injection e5 with e5
    subst e5
    refine ⟨b, cap, e2, ?_, ?_, hb, blk_lt hblk⟩
    · have : (⟨b, 0, none⟩ : Addr).add (i : Int).toNat = ⟨b, i, none⟩ := by rw [add_plain]; simp
      rw [this] at hcell
      simpa [rdOf] using hcell
    · exact blk_frozen hblk i
/-- A byte of a row is turned. -/
theorem BytesAt.store {w : World} {B b n c : Nat} {xs : List Int} (h : BytesAt w B (.slice (some ⟨b, 0, none⟩) n c) xs) (i : Nat) (y : Int) :
    BytesAt (w.setCell ⟨b, i, none⟩ (.int .u8 y)) B (.slice (some ⟨b, 0, none⟩) n c) (xs.set i y) := by
  have := Kd.R_putn (enc := Value.int .u8) (h1 := fun _ => rfl) h (i : Int) y
  rw [Int.toNat_natCast] at this
  exact this
theorem infoB : (Try.prog.info? 5).map (fun i => (i.zero, i.size, i.bytes)) = some (some (.int .u8 0), 1, 1) := by kernel_rfl
section
variable {ops : Array Oper} {o : Oper} {a : Act} {Q : Exit → Act → World → Prop} {Kc : Act → World → Prop} {rest : List Oper}
/-- One byte more: a list of operations; a region that draws. -/
theorem app_list {w0 W : World} {B : Nat} (s x : Operand) (y : Int) {v : Value} {xs : List Int} (hgd : o.guard = none)
    (ho : o.op = .call { callee := .builtin .append, args := #[s, x], argTypes := #[31, 31] }) (hs : a.eval s = v) (hx : a.eval x = .slice (some ⟨W.heap.size, 0, none⟩) 1 1)
    (HO : BytesAt W B v xs) (HB : Below B w0 W) (hB : B ≤ W.heap.size) (hl : xs.length < 140737488355328)
    (h : ∀ v1 w1, Aside0 (BytesAt w1 B v1 (xs ++ [y])) → Aside0 (Below B w0 w1) → Aside0 (W.grownBy w1 v.ownBlock) → Aside0 (v1.ownBlock = v.ownBlock ∨ ∃ b, v1.ownBlock = some b ∧ W.heap.size ≤ b) → wpList Try.prog ops Q rest (a.put o.dst v1) w1) :
    wpList Try.prog ops Q (o :: rest) a (W.alloc (.cells #[.int .u8 y] 5)) :=
  Kd.R_append (Kd.int .u8) (w0 := w0) B hgd s x 31 5 (.int .u8 0) 1 ho Try.underlying31 infoB rfl (by decide) (by omega) v xs y [.int .u8 y] (fun _ => True) (fun _ => False) hs hx rfl (fun _ hk => hk.elim)
    (fun _ _ => trivial) HO.all HB hB (by omega) (fun v1 w1 h1 h2 h3 h4 => h v1 w1 ⟨.of h1⟩ ⟨h2⟩ ⟨h3⟩ ⟨h4⟩)
end
end Go.Proofs.Ytfhekkoibmlmpaa.Hand

/- Plain words of layer 1: rows of bits, and their bytes. -/
namespace Go.Proofs.Ytfhekkoibmlmpaa.Hand
open Go.RowKit Go.Proofs.YtfhekkoibmlmpaaW.PrintWords
set_option linter.unusedVariables false
set_option linter.unusedSimpArgs false

/-- The value of bits, the highest first, the first one of weight w. -/
def val : List Bool → Nat → Nat
  | [], _ => 0
  | b :: l, w => (if b then w else 0) + val l (w / 2)
theorem val_snoc (b : Bool) : ∀ (l : List Bool) (w : Nat), val (l ++ [b]) w = val l w + (if b then w / 2 ^ l.length else 0)
  | [], w => by simp [val]
  | a :: l, w => by
    rw [List.cons_append, val, val_snoc b l, val, Nat.div_div_eq_div_mul, List.length_cons, Nat.pow_succ, Nat.mul_comm 2]
    omega
theorem val_lt : ∀ (l : List Bool) (k : Nat), val l (2 ^ k) < 2 ^ (k + 1)
  | [], k => by simp only [val]; exact Nat.two_pow_pos _
  | b :: l, 0 => by
    have : val l 0 = 0 := by
      induction l with
      | nil => rfl
      | cons a l ih => simp only [val, Nat.zero_div, ih]; cases a <;> rfl
    simp only [val]
    rw [show 2 ^ 0 / 2 = 0 from rfl, this]
    cases b <;> decide
  | b :: l, k + 1 => by
    have h := val_lt l k
    simp only [val]
    rw [show 2 ^ (k + 1) / 2 = 2 ^ k by rw [Nat.pow_succ, Nat.mul_div_cancel _ (by decide)], Nat.pow_succ 2 (k + 1)]
    cases b <;> simp <;> omega
theorem val_mod : ∀ (l : List Bool) (k : Nat), l.length ≤ k + 1 → val l (2 ^ k) % 2 ^ (k + 1 - l.length) = 0
  | [], k, _ => by simp [val]
  | b :: l, 0, h => by
    have : l = [] := by
      apply List.eq_nil_of_length_eq_zero
      simp at h
      exact List.length_eq_zero_iff.2 h
    subst this
    cases b <;> decide
  | b :: l, k + 1, h => by
    have h2 : l.length ≤ k + 1 := by simpa using h
    have hv := val_mod l k h2
    simp only [val]
    rw [show 2 ^ (k + 1) / 2 = 2 ^ k by rw [Nat.pow_succ, Nat.mul_div_cancel _ (by decide)], List.length_cons, show k + 1 + 1 - (l.length + 1) = k + 1 - l.length by omega]
    have hd : 2 ^ (k + 1 - l.length) ∣ 2 ^ (k + 1) := Nat.pow_dvd_pow 2 (by omega)
    have hd2 := Nat.dvd_of_mod_eq_zero hv
    apply Nat.mod_eq_zero_of_dvd
    cases b
    · simpa using hd2
    · exact Nat.dvd_add hd hd2
theorem val_bit : ∀ (l : List Bool) (k i : Nat), i ≤ k → l.length ≤ k + 1 → (val l (2 ^ k)).testBit (k - i) = l.getD i false
  | [], k, i, _, _ => by simp [val]
  | b :: l, 0, i, h, hl => by
    have : l = [] := by
      apply List.eq_nil_of_length_eq_zero
      simp at hl
      exact List.length_eq_zero_iff.2 hl
    subst this
    obtain rfl : i = 0 := by omega
    cases b <;> decide
  | b :: l, k + 1, i, h, hl => by
    have h2 : l.length ≤ k + 1 := by simpa using hl
    have hlt := val_lt l k
    simp only [val]
    rw [show 2 ^ (k + 1) / 2 = 2 ^ k by rw [Nat.pow_succ, Nat.mul_div_cancel _ (by decide)]]
    cases i with
    | zero =>
      rw [Nat.sub_zero]
      cases b
      · simp [Nat.testBit_lt_two_pow hlt]
      · simp [Nat.testBit_two_pow_add_eq, Nat.testBit_lt_two_pow hlt]
    | succ i =>
      have ih := val_bit l k i (by omega) h2
      rw [show k + 1 - (i + 1) = k - i by omega, List.getD_cons_succ, ← ih]
      cases b
      · simp
      · simp only [if_true]
        rw [Nat.testBit_two_pow_add_gt (by omega)]
/-- Bits as bytes; the last byte with noughts. -/
def pack (bs : List Bool) : List Int := (List.range ((bs.length + 7) / 8)).map fun j => ((val ((bs.drop (8 * j)).take 8) 128 : Nat) : Int)
theorem pack_length (bs : List Bool) : (pack bs).length = (bs.length + 7) / 8 := by simp [pack]
theorem pack_at (bs : List Bool) (j : Nat) (h : j < (bs.length + 7) / 8) : (pack bs)[j]? = some ((val ((bs.drop (8 * j)).take 8) 128 : Nat) : Int) := by simp [pack, h]
theorem pack_none (bs : List Bool) (j : Nat) (h : (bs.length + 7) / 8 ≤ j) : (pack bs)[j]? = none := by simp [pack, h]
theorem chunk_in (bs : List Bool) (b : Bool) (j : Nat) (h : 8 * j + 8 ≤ bs.length) : ((bs ++ [b]).drop (8 * j)).take 8 = (bs.drop (8 * j)).take 8 := by
  rw [List.drop_append_of_le_length (by omega), List.take_append_of_le_length (by rw [List.length_drop]; omega)]
theorem chunk_last (bs : List Bool) (b : Bool) : ((bs ++ [b]).drop (8 * (bs.length / 8))).take 8 = bs.drop (8 * (bs.length / 8)) ++ [b] := by
  rw [List.drop_append_of_le_length (by omega), List.take_of_length_le (by simp; omega)]
theorem last_length (bs : List Bool) : (bs.drop (8 * (bs.length / 8))).length = bs.length % 8 := by rw [List.length_drop]; omega
theorem pack_false (bs : List Bool) : pack (bs ++ [false]) = if bs.length % 8 = 0 then pack bs ++ [0] else pack bs := by
  by_cases h : bs.length % 8 = 0
  · rw [if_pos h]
    apply List.ext_getElem?
    intro j
    by_cases hj : j < bs.length / 8
    · rw [pack_at _ _ (by simp; omega), chunk_in _ _ _ (by omega), List.getElem?_append_left (by rw [pack_length]; omega), pack_at _ _ (by omega)]
    · by_cases e : j = bs.length / 8
      · subst e
        rw [pack_at _ _ (by simp; omega), chunk_last, List.getElem?_append_right (by rw [pack_length]; omega), pack_length, show bs.length / 8 - (bs.length + 7) / 8 = 0 by omega, List.drop_of_length_le (by omega)]
        rfl
      · rw [pack_none _ _ (by simp; omega), List.getElem?_eq_none (by simp [pack_length]; omega)]
  · rw [if_neg h]
    apply List.ext_getElem?
    intro j
    by_cases hj : j < bs.length / 8
    · rw [pack_at _ _ (by simp; omega), chunk_in _ _ _ (by omega), pack_at _ _ (by omega)]
    · by_cases e : j = bs.length / 8
      · subst e
        rw [pack_at _ _ (by simp; omega), chunk_last, pack_at _ _ (by omega), List.take_of_length_le (by rw [last_length]; omega), val_snoc]
        simp
      · rw [pack_none _ _ (by simp; omega), pack_none _ _ (by omega)]
theorem or8 : ∀ r : Nat, r < 8 → ∀ m : Nat, m < 256 → m % 2 ^ (8 - r) = 0 → Go.bits .or .u8 (m : Int) ((128 / 2 ^ r : Nat) : Int) = ((m + 128 / 2 ^ r : Nat) : Int) := by decide +kernel
/-- A one more: the last byte's bit is laid. -/
theorem pack_true (bs : List Bool) : ∃ x, (pack (bs ++ [false]))[bs.length / 8]? = some x ∧ 0 ≤ x ∧ x < 256 ∧ pack (bs ++ [true]) = (pack (bs ++ [false])).set (bs.length / 8) (Go.bits .or .u8 x ((128 / 2 ^ (bs.length % 8) : Nat) : Int)) := by
  have hl := last_length bs
  have hlt : val (bs.drop (8 * (bs.length / 8))) 128 < 256 := val_lt _ 7
  have hm : val (bs.drop (8 * (bs.length / 8))) 128 % 2 ^ (7 + 1 - (bs.drop (8 * (bs.length / 8))).length) = 0 := val_mod _ 7 (by omega)
  rw [hl] at hm
  have e0 : (pack (bs ++ [false]))[bs.length / 8]? = some ((val (bs.drop (8 * (bs.length / 8))) 128 : Nat) : Int) := by
    rw [pack_at _ _ (by simp; omega), chunk_last, val_snoc]
    simp
  refine ⟨_, e0, by omega, by omega, ?_⟩
  rw [or8 (bs.length % 8) (by omega) _ hlt hm]
  apply List.ext_getElem?
  intro j
  rw [List.getElem?_set]
  by_cases e : bs.length / 8 = j
  · subst e
    rw [if_pos rfl, if_pos (by rw [pack_length]; simp; omega), pack_at _ _ (by simp; omega), chunk_last, val_snoc, hl]
    simp
  · rw [if_neg e]
    by_cases hj : j < bs.length / 8
    · rw [pack_at _ _ (by simp; omega), chunk_in _ _ _ (by omega), pack_at _ _ (by simp; omega), chunk_in _ _ _ (by omega)]
    · rw [pack_none _ _ (by simp; omega), pack_none _ _ (by simp; omega)]
theorem pack_eight (bs : List Bool) (h : bs.length % 8 = 0) : pack (bs ++ List.replicate 8 false) = pack bs ++ [0] := by
  have e1 : pack (bs ++ [false]) = pack bs ++ [0] := by rw [pack_false, if_pos h]
  have step : ∀ (bs : List Bool), bs.length % 8 ≠ 0 → pack (bs ++ [false]) = pack bs := fun bs h => by rw [pack_false, if_neg h]
  rw [show bs ++ List.replicate 8 false = (((((((bs ++ [false]) ++ [false]) ++ [false]) ++ [false]) ++ [false]) ++ [false]) ++ [false]) ++ [false] by simp [List.replicate]]
  rw [step _ (by simp; omega), step _ (by simp; omega), step _ (by simp; omega), step _ (by simp; omega), step _ (by simp; omega), step _ (by simp; omega), step _ (by simp; omega), e1]
/-- The bit at a place of a text's bytes. -/
def bitAt (xs : List Int) (p : Nat) : Bool := (xs.getD (p / 8) 0).toNat.testBit (7 - p % 8)
theorem bit_pack (bs : List Bool) (p : Nat) : bitAt (pack bs) p = bs.getD p false := by
  unfold bitAt
  by_cases h : p / 8 < (bs.length + 7) / 8
  · rw [List.getD_eq_getElem?_getD, pack_at _ _ h, Option.getD_some, Int.toNat_natCast]
    have := val_bit ((bs.drop (8 * (p / 8))).take 8) 7 (p % 8) (by omega) (by simp; omega)
    rw [show (2 : Nat) ^ 7 = 128 from rfl] at this
    rw [this, List.getD_eq_getElem?_getD, List.getD_eq_getElem?_getD, List.getElem?_take_of_lt (by omega), List.getElem?_drop, show 8 * (p / 8) + p % 8 = p by omega]
  · rw [List.getD_eq_getElem?_getD, pack_none _ _ (by omega), List.getD_eq_getElem?_getD, List.getElem?_eq_none (by omega)]
    simp
/-- So many bits of a number, the highest first; bits as a number. -/
def nbits (u w : Nat) : List Bool := (List.range w).map fun i => u.testBit (w - 1 - i)
def natOf (l : List Bool) : Nat := l.foldl (fun n b => 2 * n + b.toNat) 0
theorem nbits_length (u w : Nat) : (nbits u w).length = w := by simp [nbits]
theorem natOf_snoc (l : List Bool) (b : Bool) : natOf (l ++ [b]) = 2 * natOf l + b.toNat := by simp [natOf]
theorem nbits_succ (u w : Nat) : nbits u (w + 1) = nbits (u / 2) w ++ [u.testBit 0] := by
  unfold nbits
  rw [List.range_succ, List.map_append]
  congr 1
  · apply List.map_congr_left
    intro i hi
    have hi := List.mem_range.1 hi
    rw [show w + 1 - 1 - i = (w - 1 - i) + 1 by omega, Nat.testBit_succ]
  · simp
theorem natOf_nbits : ∀ (w u : Nat), natOf (nbits u w) = u % 2 ^ w
  | 0, u => by simp [nbits, natOf, Nat.mod_one]
  | w + 1, u => by
    rw [nbits_succ, natOf_snoc, natOf_nbits w, Nat.testBit_zero, Nat.pow_succ, Nat.mul_comm (2 ^ w) 2, Nat.mod_mul]
    rcases Nat.mod_two_eq_zero_or_one u with h | h <;> simp [h] <;> omega
theorem nbits_take (u w : Nat) (i : Nat) (h : i < w) : (nbits u w).take (i + 1) = (nbits u w).take i ++ [u.testBit (w - 1 - i)] := by
  rw [List.take_succ_eq_append_getElem (by rw [nbits_length]; exact h)]
  simp [nbits]
theorem natOf_lt : ∀ (n : Nat) (l : List Bool), l.length = n → natOf l < 2 ^ n
  | 0, l, h => by
    rw [List.length_eq_zero_iff.1 h]
    decide
  | n + 1, l, h => by
    rcases List.eq_nil_or_concat l with e | ⟨l', b, e⟩
    · rw [e] at h; simp at h
    · rw [List.concat_eq_append] at e
      subst e
      have := natOf_lt n l' (by simpa using h)
      rw [natOf_snoc, Nat.pow_succ]
      cases b <;> simp <;> omega
end Go.Proofs.Ytfhekkoibmlmpaa.Hand

/- Contracts of layer 1, proved by hand: a writer's bit. -/
namespace Go.Proofs.Ytfhekkoibmlmpaa.Hand
open Go.RowKit Go.Proofs.YtfhekkoibmlmpaaW.PrintWords Go.Proofs.YtfhekkoibmlmpaaW.PrintLast Go.Proofs.YtfhekkoibmlmpaaW.PrintMore
set_option linter.unusedVariables false
set_option linter.unusedSimpArgs false

/-- A writer in block g: its count, its bytes. -/
def Raw (w : World) (B g : Nat) (v : Value) (n : Nat) (xs : List Int) : Prop := w.heap[g]? = some (.cells #[.int .i64 n, v] 64 (0, 0)) ∧ BytesAt w B v xs ∧ B ≤ g
/-- A writer of these bits. -/
def WAt (w : World) (B g : Nat) (v : Value) (bs : List Bool) : Prop := Raw w B g v bs.length (pack bs)
theorem Raw.below {w w' : World} {B g n : Nat} {v : Value} {xs : List Int} (h : Raw w B g v n xs) (hb : Below w.heap.size w w') : Raw w' B g v n xs := ⟨blk_below h.1 hb, h.2.1.below hb, h.2.2⟩
theorem Raw.lt {w : World} {B g n : Nat} {v : Value} {xs : List Int} (h : Raw w B g v n xs) : g < w.heap.size := blk_lt h.1
theorem Raw.count {w : World} {B g n m : Nat} {v : Value} {xs : List Int} (h : Raw w B g v n xs) : Raw (w.setCell ⟨g, 0, none⟩ (.int .i64 m)) B g v m xs :=
  ⟨blk_put h.1 0 _ rfl, h.2.1.set h.1 (by decide) 0 _, h.2.2⟩
theorem Raw.grown {W w1 : World} {B g n : Nat} {v : Value} {xs : List Int} (h : Raw W B g v n xs) (hg : W.grownBy w1 v.ownBlock) : w1.heap[g]? = some (.cells #[.int .i64 n, v] 64 (0, 0)) := by
  rw [hg.block g h.lt (fun e => ?_)]
  · exact h.1
  · exact Kd.R_ne h.2.1.all h.1 (by decide) e
theorem Raw.put {w : World} {B g n : Nat} {v v1 : Value} {xs : List Int} (hb : w.heap[g]? = some (.cells #[.int .i64 n, v] 64 (0, 0))) (hr : BytesAt w B v1 xs) (hB : B ≤ g) : Raw (w.setCell ⟨g, 1, none⟩ v1) B g v1 n xs :=
  ⟨blk_put hb 1 v1 rfl, hr.set hb (by decide) 1 v1, hB⟩
/-- A byte of the row is turned. -/
theorem Raw.byte {w : World} {B g n b c m : Nat} {xs : List Int} (h : Raw w B g (.slice (some ⟨b, 0, none⟩) m c) n xs) (i : Nat) (y : Int) : Raw (w.setCell ⟨b, i, none⟩ (.int .u8 y)) B g (.slice (some ⟨b, 0, none⟩) m c) n (xs.set i y) := by
  have hne : g ≠ b := by
    have := Kd.R_ne h.2.1.all h.1 (by decide)
    simpa [Value.ownBlock] using this
  refine ⟨?_, h.2.1.store i y, h.2.2⟩
  rw [Below.heap_setCell w ⟨b, i, none⟩ _ g hne]
  exact h.1
theorem Moved.byte {B g b c m : Nat} {w w1 : World} {v : Value} (h : Moved B g w v w1 (.slice (some ⟨b, 0, none⟩) m c)) (hb : B ≤ b) (i : Nat) (u : Value) : Moved B g w v (w1.setCell ⟨b, i, none⟩ u) (.slice (some ⟨b, 0, none⟩) m c) :=
  ⟨h.below.setCell hb u, h.kept.setCell (p := ⟨b, i, none⟩) ((h.own b rfl).imp .inr id) u, h.own⟩
set_option maxHeartbeats 1000000 in
theorem at_any (g : Nat) (n : Int) (w : World) (hc : w.cell? ⟨g, 0, none⟩ = some (.int .i64 n)) : Calls Try.prog 38 #[.pointer (some ⟨g, 0, none⟩)] w fun e w' => e = .returned (.int .i64 n) ∧ w = w' := by
  go_enter Try.func38, Try.ntmps38
  go_wp2
  go_ret
  exact ⟨rfl, rfl⟩
theorem at_still (g : Nat) (n : Int) (w : World) (hc : w.cell? ⟨g, 0, none⟩ = some (.int .i64 n)) : Calls Try.prog 38 #[.pointer (some ⟨g, 0, none⟩)] w fun e w' => e = .returned (.int .i64 n) ∧ w' = w := (at_any g n w hc).mono fun _ _ ⟨h1, h2⟩ => ⟨h1, h2.symm⟩
set_option maxHeartbeats 1000000 in
theorem on_any (g : Nat) (n k : Int) (w : World) (hc : w.cell? ⟨g, 0, none⟩ = some (.int .i64 n)) (hf : w.frozen? ⟨g, 0, none⟩ = false) (h0 : 0 ≤ n) (h1 : n ≤ 4611686018427387904) (h2 : 0 ≤ k) (h3 : k ≤ 4611686018427387903) : Calls Try.prog 56 #[.pointer (some ⟨g, 0, none⟩), .int .i64 k] w fun e w' => e = .returned (.tuple #[]) ∧ w.setCell ⟨g, 0, none⟩ (.int .i64 (n + k)) = w' := by
  go_enter Try.func56, Try.ntmps56
  go_wp2
  refine bodyPost_end (results_none rfl _ _ _) rfl ?_
  exact ⟨rfl, rfl⟩
set_option maxHeartbeats 4000000 in
set_option maxRecDepth 100000 in
theorem bit_any (bs : List Bool) (one : Bool) (B g : Nat) (v : Value) (w : World) (h : WAt w B g v bs) (hl : bs.length < 1125899906842624) :
    Calls Try.prog 48 #[.pointer (some ⟨g, 0, none⟩), .bool one] w fun e w' => e = .returned (.tuple #[]) ∧ ∃ v', WAt w' B g v' (bs ++ [one]) ∧ Moved B g w v w' v' := by
  have hup := Try.underlying28
  obtain ⟨n, hn⟩ : ∃ n, bs.length = n := ⟨_, rfl⟩
  have hraw : Raw w B g v n (pack bs) := by rw [← hn]; exact h
  have H := Aside0.mk hraw
  have HN := Aside0.mk hn
  have hpf := pack_false bs
  have hpt := pack_true bs
  have hlen := pack_length bs
  rw [hn] at hpf hpt hl hlen
  have HPL := Aside0.mk hlen
  have HPF := Aside0.mk hpf
  have HPT := Aside0.mk hpt
  have c0 : w.cell? ⟨g, 0, none⟩ = some (.int .i64 n) := blk_cell hraw.1 0
  have c1 : w.cell? ⟨g, 1, none⟩ = some v := blk_cell hraw.1 1
  clear h hn hraw hpf hpt hlen
  go_enter Try.func48, Try.ntmps48
  by_cases h8 : n % 8 = 0
  · have h8' : (n : Int) % 8 = 0 := by omega
    have HPF2 := Aside0.mk (HPF.out.trans (if_pos h8))
    clear h8
    go_upto_region 2 with (first | (go_at_call 38; refine (at_any g n _ c0).mono ?_; rintro e w' ⟨rfl, rfl⟩) | (at_builtin; (with_reducible refine app_list (w0 := w) (B := B) (v := v) (xs := pack bs) (.tmp 14) (.tmp 15) _ ?_ ?_ ?_ ?_ ?_ ?_ ?_ ?_ ?_); rfl; rfl; rfl; rfl; exact H.out.2.1; exact Below.refl _ _; exact Nat.le_trans H.out.2.2 (Nat.le_of_lt H.out.lt); (rw [HPL.out]; omega); intro v1 w1 HO1 HB1 HG1 HV1; have hb1 := Raw.grown H.out HG1.out; obtain ⟨A1, k1, e1⟩ := BytesAt.slice HO1.out; subst e1; have c11 : w1.cell? ⟨g, 1, none⟩ = some v := blk_cell hb1 1; have f11 := blk_frozen hb1 1))
    · have hr := Raw.put hb1 HO1.out H.out.2.2
      rw [← HPF2.out] at hr
      have HR := Aside0.mk hr
      have HM := Aside0.mk ((Moved.app (Moved.refl B g w v) HG1.out HB1.out HV1.out).set H.out.2.2 1 (.slice A1 ((pack bs).length + 1) k1))
      clear hr c0 c1 c11 f11 hb1 HO1 HB1 HG1 HV1 h8'
      generalize w1.setCell ⟨g, 1, none⟩ (.slice A1 ((pack bs).length + 1) k1) = wq at HR HM ⊢
      generalize Value.slice A1 ((pack bs).length + 1) k1 = v1 at HR HM ⊢
      have HRL := Aside0.mk (pack_length (bs ++ [false]))
      have c0 : wq.cell? ⟨g, 0, none⟩ = some (.int .i64 n) := blk_cell HR.out.1 0
      have c1 : wq.cell? ⟨g, 1, none⟩ = some v1 := blk_cell HR.out.1 1
      have f0 : wq.frozen? ⟨g, 0, none⟩ = false := blk_frozen HR.out.1 0
      cases one with
      | false =>
        go_wp2_with fail
        refine (on_any g n 1 _ c0 f0 (by omega) (by omega) (by omega) (by omega)).mono ?_
        rintro e w' ⟨rfl, rfl⟩
        go_wp2
        refine bodyPost_end (results_none rfl _ _ _) rfl ?_
        refine ⟨rfl, v1, ?_, HM.out.set H.out.2.2 0 _⟩
        unfold WAt
        rw [List.length_append, List.length_singleton, HN.out]
        exact HR.out.count
      | true =>
        obtain ⟨x, hx, x0, x1, hp⟩ := HPT.out
        have HP := Aside0.mk hp
        obtain ⟨xs, hxs⟩ : ∃ xs, pack (bs ++ [false]) = xs := ⟨_, rfl⟩
        rw [hxs] at HR hx HP
        have hxl : xs.length = n / 8 + 1 := by rw [← hxs, HRL.out, List.length_append, List.length_singleton, HN.out]; omega
        obtain ⟨b, cap, e1, cb, fb, hBb, hbl⟩ := HR.out.2.1.place (n / 8) (by omega)
        rw [hxl] at e1
        have hxg : xs.getD (n / 8) 0 = x := by rw [List.getD_eq_getElem?_getD, hx]; rfl
        rw [hxg] at cb
        subst e1
        have HBB := Aside0.mk hBb
        obtain ⟨r, hr⟩ : ∃ r, n % 8 = r := ⟨_, rfl⟩
        have et : (n : Int).tmod 8 = (r : Int) := by rw [← hr, Int.tmod_eq_emod_of_nonneg (by omega)]; omega
        have HSH := Aside0.mk (show (128 : Int) / 2 ^ r = ((128 / 2 ^ (n % 8) : Nat) : Int) by rw [hr]; simp)
        have m0 : 0 ≤ (r : Int) := by omega
        have m1 : (r : Int) < 8 := by omega
        clear hr
        obtain ⟨j, hj⟩ : ∃ j, n / 8 = j := ⟨_, rfl⟩
        rw [hj] at cb fb c1 HP HM HR
        have e8 : IntKind.i64.wrap (j : Int) = (j : Int) := by rw [IntKind.wrap_i64]; omega
        have i0 : (0 : Int) ≤ (j : Int) := by omega
        have i1 : (j : Int) < (j : Int) + 1 := by omega
        have HJ := Aside0.mk hj
        clear hx hp hxs hxl hxg hBb hj
        go_wp2
        go_still_tail 20, (by kernel_rfl)
        still_call (at_still g n _ c0)
        repeat still_step
        refine wpStill_nil ?_
        have HR2 : Aside0 (Raw wq.drew B g (.slice (some ⟨b, 0, none⟩) (j + 1) cap) n xs) := ⟨HR.out.below (below_drew (Below.refl _ _))⟩
        have HM2 : Aside0 (Moved B g w v wq.drew (.slice (some ⟨b, 0, none⟩) (j + 1) cap)) := ⟨HM.out.drew⟩
        have cb2 : wq.drew.cell? ⟨b, j, none⟩ = some (.int .u8 x) := cb
        have fb2 : wq.drew.frozen? ⟨b, j, none⟩ = false := fb
        clear c0 c1 f0 cb fb HR HM
        change wpList _ _ _ _ _ wq.drew
        generalize wq.drew = wz at HR2 HM2 cb2 fb2 ⊢
        go_wp2_with fail
        have HR3 := Aside0.mk (HR2.out.byte j (Go.bits .or .u8 x (128 / 2 ^ r)))
        have HM3 := Aside0.mk (HM2.out.byte HBB.out j (.int .u8 (Go.bits .or .u8 x (128 / 2 ^ r))))
        refine (on_any g n 1 _ (blk_cell HR3.out.1 0) (blk_frozen HR3.out.1 0) (by omega) (by omega) (by omega) (by omega)).mono ?_
        rintro e w' ⟨rfl, rfl⟩
        go_wp2
        refine bodyPost_end (results_none rfl _ _ _) rfl ?_
        try rw [HJ.out]
        refine ⟨rfl, _, ?_, HM3.out.set H.out.2.2 0 _⟩
        unfold WAt
        rw [List.length_append, List.length_singleton, HN.out, HP.out, ← HSH.out]
        exact HR3.out.count
  · have h8' : ¬ (n : Int) % 8 = 0 := by omega
    have HPF2 := Aside0.mk (HPF.out.trans (if_neg h8))
    clear h8
    go_upto_region 2 with (first | (go_at_call 38; refine (at_any g n _ c0).mono ?_; rintro e w' ⟨rfl, rfl⟩))
    · have hr : Raw w B g v n (pack (bs ++ [false])) := by rw [HPF2.out]; exact H.out
      have HM := Aside0.mk (Moved.refl B g w v)
      have HR := Aside0.mk hr
      clear hr c0 c1 h8'
      have HRL := Aside0.mk (pack_length (bs ++ [false]))
      have c0 : w.cell? ⟨g, 0, none⟩ = some (.int .i64 n) := blk_cell HR.out.1 0
      have c1 : w.cell? ⟨g, 1, none⟩ = some v := blk_cell HR.out.1 1
      have f0 : w.frozen? ⟨g, 0, none⟩ = false := blk_frozen HR.out.1 0
      cases one with
      | false =>
        go_wp2_with fail
        refine (on_any g n 1 _ c0 f0 (by omega) (by omega) (by omega) (by omega)).mono ?_
        rintro e w' ⟨rfl, rfl⟩
        go_wp2
        refine bodyPost_end (results_none rfl _ _ _) rfl ?_
        refine ⟨rfl, v, ?_, HM.out.set H.out.2.2 0 _⟩
        unfold WAt
        rw [List.length_append, List.length_singleton, HN.out]
        exact HR.out.count
      | true =>
        obtain ⟨x, hx, x0, x1, hp⟩ := HPT.out
        have HP := Aside0.mk hp
        obtain ⟨xs, hxs⟩ : ∃ xs, pack (bs ++ [false]) = xs := ⟨_, rfl⟩
        rw [hxs] at HR hx HP
        have hxl : xs.length = n / 8 + 1 := by rw [← hxs, HRL.out, List.length_append, List.length_singleton, HN.out]; omega
        obtain ⟨b, cap, e1, cb, fb, hBb, hbl⟩ := HR.out.2.1.place (n / 8) (by omega)
        rw [hxl] at e1
        have hxg : xs.getD (n / 8) 0 = x := by rw [List.getD_eq_getElem?_getD, hx]; rfl
        rw [hxg] at cb
        subst e1
        have HBB := Aside0.mk hBb
        obtain ⟨r, hr⟩ : ∃ r, n % 8 = r := ⟨_, rfl⟩
        have et : (n : Int).tmod 8 = (r : Int) := by rw [← hr, Int.tmod_eq_emod_of_nonneg (by omega)]; omega
        have HSH := Aside0.mk (show (128 : Int) / 2 ^ r = ((128 / 2 ^ (n % 8) : Nat) : Int) by rw [hr]; simp)
        have m0 : 0 ≤ (r : Int) := by omega
        have m1 : (r : Int) < 8 := by omega
        clear hr
        obtain ⟨j, hj⟩ : ∃ j, n / 8 = j := ⟨_, rfl⟩
        rw [hj] at cb fb c1 HP HM HR
        have e8 : IntKind.i64.wrap (j : Int) = (j : Int) := by rw [IntKind.wrap_i64]; omega
        have i0 : (0 : Int) ≤ (j : Int) := by omega
        have i1 : (j : Int) < (j : Int) + 1 := by omega
        have HJ := Aside0.mk hj
        clear hx hp hxs hxl hxg hBb hj
        go_wp2
        go_still_tail 20, (by kernel_rfl)
        still_call (at_still g n _ c0)
        repeat still_step
        refine wpStill_nil ?_
        have HR2 : Aside0 (Raw w.drew B g (.slice (some ⟨b, 0, none⟩) (j + 1) cap) n xs) := ⟨HR.out.below (below_drew (Below.refl _ _))⟩
        have HM2 : Aside0 (Moved B g w (.slice (some ⟨b, 0, none⟩) (j + 1) cap) w.drew (.slice (some ⟨b, 0, none⟩) (j + 1) cap)) := ⟨HM.out.drew⟩
        have cb2 : w.drew.cell? ⟨b, j, none⟩ = some (.int .u8 x) := cb
        have fb2 : w.drew.frozen? ⟨b, j, none⟩ = false := fb
        clear c0 c1 f0 cb fb HR HM
        change wpList _ _ _ _ _ w.drew
        generalize w.drew = wz at HR2 HM2 cb2 fb2 ⊢
        go_wp2_with fail
        have HR3 := Aside0.mk (HR2.out.byte j (Go.bits .or .u8 x (128 / 2 ^ r)))
        have HM3 := Aside0.mk (HM2.out.byte HBB.out j (.int .u8 (Go.bits .or .u8 x (128 / 2 ^ r))))
        refine (on_any g n 1 _ (blk_cell HR3.out.1 0) (blk_frozen HR3.out.1 0) (by omega) (by omega) (by omega) (by omega)).mono ?_
        rintro e w' ⟨rfl, rfl⟩
        go_wp2
        refine bodyPost_end (results_none rfl _ _ _) rfl ?_
        try rw [HJ.out]
        refine ⟨rfl, _, ?_, HM3.out.set H.out.2.2 0 _⟩
        unfold WAt
        rw [List.length_append, List.length_singleton, HN.out, HP.out, ← HSH.out]
        exact HR3.out.count
end Go.Proofs.Ytfhekkoibmlmpaa.Hand

/- Contracts of layer 1, proved by hand: a writer's lay, New, Len, Bytes. -/
namespace Go.Proofs.Ytfhekkoibmlmpaa.Hand
open Go.RowKit Go.Proofs.YtfhekkoibmlmpaaW.PrintWords Go.Proofs.YtfhekkoibmlmpaaW.PrintLast Go.Proofs.YtfhekkoibmlmpaaW.PrintMore
set_option linter.unusedVariables false
set_option linter.unusedSimpArgs false

theorem bit_of (u k : Nat) (hu : u < 18446744073709551616) : (Go.bits .and .u64 ((u : Int) / 2 ^ k) 1 == 1) = u.testBit k := by
  have hq : (u : Int) / 2 ^ k = ((u / 2 ^ k : Nat) : Int) := by simp
  have hle : u / 2 ^ k ≤ u := Nat.div_le_self _ _
  rw [Nat.testBit_eq_decide_div_mod_eq, hq]
  generalize u / 2 ^ k = q at hle
  rw [and_mask_u64 1 (by decide) _ 1 (by omega) (by omega) rfl, show (2 : Int) ^ 1 = 2 from rfl]
  by_cases h : q % 2 = 1
  · rw [decide_eq_true h]
    have : (q : Int) % 2 = 1 := by omega
    rw [this]
    rfl
  · rw [decide_eq_false h]
    have : (q : Int) % 2 = 0 := by omega
    rw [this]
    rfl
set_option maxHeartbeats 4000000 in
set_option maxRecDepth 100000 in
theorem lay_any (u W : Nat) (bs : List Bool) (hu : u < 18446744073709551616) (hW : W ≤ 64) (B g : Nat) (v : Value) (w : World) (h : WAt w B g v bs) (hl : bs.length + 64 < 1125899906842624) :
    Calls Try.prog 30 #[.pointer (some ⟨g, 0, none⟩), .int .u64 u, .int .i64 W] w fun e w' => e = .returned (.tuple #[]) ∧ ∃ v', WAt w' B g v' (bs ++ nbits u W) ∧ Moved B g w v w' v' := by
  have hup := Try.underlying28
  have H := Aside0.mk h
  clear h
  go_enter Try.func30, Try.ntmps30
  go_wp2
  go_loopg [6] W (fun k i wr => ∃ (v' : Value), k ≤ W ∧ i = .int .i64 ((k : Int) - 1) ∧ Aside0 (WAt wr B g v' (bs ++ (nbits u W).take (W - k))) ∧ Aside0 (Moved B g w v wr v'))
  case atStart => exact ⟨v, by omega, rfl, by simpa using H, ⟨Moved.refl B g w v⟩⟩
  case round =>
    obtain ⟨v', hk, rfl, HE, HM⟩ := hrel
    cases gk with
    | zero =>
      go_wp2
      refine bodyPost_end (results_none rfl _ _ _) rfl ?_
      refine ⟨rfl, v', ?_, HM.out⟩
      have := HE.out
      rw [Nat.sub_zero, List.take_of_length_le (by rw [nbits_length]; omega)] at this
      exact this
    | succ k =>
      have hb := bit_of u k hu
      have ek : (((k + 1 : Nat) : Int) - 1) = (k : Int) := by omega
      rw [ek]
      have hlen : (bs ++ (nbits u W).take (W - (k + 1))).length < 1125899906842624 := by
        rw [List.length_append, List.length_take, nbits_length]; omega
      have hnext : (nbits u W).take (W - k) = (nbits u W).take (W - (k + 1)) ++ [u.testBit k] := by
        have := nbits_take u W (W - (k + 1)) (by omega)
        rw [show W - (k + 1) + 1 = W - k by omega, show W - 1 - (W - (k + 1)) = k by omega] at this
        exact this
      obtain ⟨one, h1⟩ : ∃ one, u.testBit k = one := ⟨_, rfl⟩
      rw [h1] at hb hnext
      have HX := Aside0.mk hnext
      have HLN := Aside0.mk hlen
      have k64 : (k : Int) < 64 := by omega
      clear hnext h1 hlen ek
      go_wp2_with fail
      refine (bit_any _ one B g v' wr HE.out HLN.out).mono ?_
      rintro e w2 ⟨rfl, v2, hE, hM⟩
      have HE2 := Aside0.mk hE
      have HM2 := Aside0.mk (HM.out.trans hM)
      clear hE hM
      go_wp2
      go_roundg k
      case measure => omega
      case rel => exact ⟨v2, by omega, rfl, by rw [HX.out, ← List.append_assoc]; exact HE2, HM2⟩
set_option maxHeartbeats 1000000 in
theorem New_any (w : World) : Calls Try.prog 10 #[] w fun e w' => e = .returned (.pointer (some ⟨w.heap.size, 0, none⟩)) ∧ w' = w.alloc (.cells #[.int .i64 0, .slice none 0 0] 64) := by
  go_enter Try.func10, Try.ntmps10
  go_wp2
  go_ret
  exact ⟨rfl, rfl⟩
theorem new_at (w : World) (B : Nat) (hB : B ≤ w.heap.size) : WAt (w.alloc (.cells #[.int .i64 0, .slice none 0 0] 64)) B w.heap.size (.slice none 0 0) [] := ⟨blk_new w _, BytesAt.nil _ _, hB⟩
set_option maxHeartbeats 1000000 in
theorem Len_any (bs : List Bool) (B g : Nat) (v : Value) (w : World) (h : WAt w B g v bs) : Calls Try.prog 15 #[.pointer (some ⟨g, 0, none⟩)] w fun e w' => e = .returned (.int .i64 bs.length) ∧ w = w' := by
  have hup := Try.underlying28
  have c0 : w.cell? ⟨g, 0, none⟩ = some (.int .i64 bs.length) := blk_cell h.1 0
  clear h
  go_enter Try.func15, Try.ntmps15
  go_wp2_with fail
  refine (at_any g _ _ c0).mono ?_
  rintro e w' ⟨rfl, rfl⟩
  go_wp2
  go_ret
  exact ⟨rfl, rfl⟩
set_option maxHeartbeats 1000000 in
theorem Bytes_any (bs : List Bool) (B g : Nat) (v : Value) (w : World) (h : WAt w B g v bs) : Calls Try.prog 16 #[.pointer (some ⟨g, 0, none⟩)] w fun e w' => e = .returned (.string (strOfNums (pack bs))) ∧ w = w' := by
  have hup := Try.underlying28
  have c1 : w.cell? ⟨g, 1, none⟩ = some v := blk_cell h.1 1
  have hcv := h.2.1.text
  clear h
  go_enter Try.func16, Try.ntmps16
  go_wp2
  go_ret
  exact ⟨rfl, rfl⟩
end Go.Proofs.Ytfhekkoibmlmpaa.Hand

/- Contracts of layer 1, proved by hand: a writer's Put, Signed, Align. -/
namespace Go.Proofs.Ytfhekkoibmlmpaa.Hand
open Go.RowKit Go.Proofs.YtfhekkoibmlmpaaW.PrintWords Go.Proofs.YtfhekkoibmlmpaaW.PrintLast Go.Proofs.YtfhekkoibmlmpaaW.PrintMore
set_option linter.unusedVariables false
set_option linter.unusedSimpArgs false

def putP (u : Nat) (k : Int) : Prop := 0 ≤ k ∧ k ≤ 64 ∧ u < 2 ^ k.toNat
instance (u : Nat) (k : Int) : Decidable (putP u k) := by unfold putP; infer_instance
set_option maxHeartbeats 4000000 in
set_option maxRecDepth 100000 in
theorem Put_yes (u K : Nat) (hu : u < 18446744073709551616) (hK : K ≤ 64) (huk : u < 2 ^ K) (bs : List Bool) (B g : Nat) (v : Value) (w : World) (h : WAt w B g v bs) (hl : bs.length + 64 < 1125899906842624) :
    Calls Try.prog 11 #[.pointer (some ⟨g, 0, none⟩), .int .u64 u, .int .i64 K] w fun e w' => e = .returned (.int .i64 0) ∧ ∃ v', WAt w' B g v' (bs ++ nbits u K) ∧ Moved B g w v w' v' := by
  have hup := Try.underlying28
  have HCT := Aside0.mk (lay_any u K bs hu hK B g v w h hl)
  have k1 : (0 : Int) ≤ (K : Int) := by omega
  have k2 : (K : Int) ≤ 64 := by omega
  clear h
  by_cases h64 : K = 64
  · subst h64
    go_enter Try.func11, Try.ntmps11
    go_wp2_with fail
    refine HCT.out.mono ?_
    rintro e w2 ⟨rfl, v2, hE, hM⟩
    have HE := Aside0.mk hE
    have HM := Aside0.mk hM
    clear hE hM
    go_wp2
    go_ret
    exact ⟨rfl, v2, HE.out, HM.out⟩
  · have hp : (2 : Int) ^ K = ((2 ^ K : Nat) : Int) := by simp
    have hle : 2 ^ K < 2 ^ 64 := Nat.pow_lt_pow_right (by decide) (by omega)
    obtain ⟨p, hpp⟩ : ∃ p : Nat, 2 ^ K = p := ⟨_, rfl⟩
    rw [hpp] at hp hle huk
    have hw : IntKind.u64.wrap (2 ^ K) = (p : Int) := by rw [u64_wrap, hp]; omega
    have hle2 : (u : Int) < (p : Int) := by omega
    have k3 : (K : Int) < 64 := by omega
    clear hp hpp hle huk
    go_enter Try.func11, Try.ntmps11
    go_wp2_with fail
    refine HCT.out.mono ?_
    rintro e w2 ⟨rfl, v2, hE, hM⟩
    have HE := Aside0.mk hE
    have HM := Aside0.mk hM
    clear hE hM
    go_wp2
    go_ret
    exact ⟨rfl, v2, HE.out, HM.out⟩
/-- A number of either sign has so many bits. -/
def fitsP (n k : Int) : Prop := 1 ≤ k ∧ k ≤ 64 ∧ -(2 ^ (k - 1).toNat) ≤ n ∧ n < 2 ^ (k - 1).toNat
theorem fits_shift (n : Int) (K : Nat) (h0 : -9223372036854775808 ≤ n) (h1 : n < 9223372036854775808) : (n / 2 ^ K == n / 9223372036854775808) = decide (-(2 ^ K) ≤ n ∧ n < 2 ^ K) := by
  have hp : (0 : Int) < 2 ^ K := Int.pow_pos (by decide)
  have a1 := Int.mul_ediv_self_le (x := n) (k := 2 ^ K) (by omega)
  have a2 := Int.lt_mul_ediv_self_add (x := n) (k := 2 ^ K) hp
  have b : n / 9223372036854775808 = 0 ∧ 0 ≤ n ∨ n / 9223372036854775808 = -1 ∧ n < 0 := by omega
  rcases b with ⟨b, hn⟩ | ⟨b, hn⟩
  · rw [b]
    by_cases h : n < 2 ^ K
    · rw [Int.ediv_eq_zero_of_lt hn h, decide_eq_true ⟨by omega, h⟩]
      rfl
    · rw [decide_eq_false (fun q => h q.2)]
      have : 1 ≤ n / 2 ^ K := by
        rw [Int.le_ediv_iff_mul_le hp]
        omega
      simp
      omega
  · rw [b]
    by_cases h : -(2 ^ K) ≤ n
    · have : n / 2 ^ K = -1 := by
        have c1 : n / 2 ^ K < 0 := Int.ediv_neg_of_neg_of_pos hn hp
        have c2 : -1 ≤ n / 2 ^ K := by
          rw [Int.le_ediv_iff_mul_le hp]
          omega
        omega
      rw [this, decide_eq_true ⟨h, by omega⟩]
      rfl
    · rw [decide_eq_false (fun q => h q.1)]
      have : n / 2 ^ K < -1 := by
        have : n / 2 ^ K < -1 := by
          apply Int.ediv_lt_of_lt_mul hp
          omega
        exact this
      simp
      omega
end Go.Proofs.Ytfhekkoibmlmpaa.Hand

/- Contracts of layer 1, proved by hand: a writer's unary. -/
namespace Go.Proofs.Ytfhekkoibmlmpaa.Hand
open Go.RowKit Go.Proofs.YtfhekkoibmlmpaaW.PrintWords Go.Proofs.YtfhekkoibmlmpaaW.PrintLast Go.Proofs.YtfhekkoibmlmpaaW.PrintMore
set_option linter.unusedVariables false
set_option linter.unusedSimpArgs false

/-- Bits, and so many noughts. -/
def noughts (bs : List Bool) (j : Nat) : List Bool := bs ++ List.replicate j false
theorem noughts_length (bs : List Bool) (j : Nat) : (noughts bs j).length = bs.length + j := by simp [noughts]
theorem noughts_one (bs : List Bool) (j : Nat) : noughts bs j ++ [false] = noughts bs (j + 1) := by
  unfold noughts
  rw [List.append_assoc, ← List.replicate_succ']
theorem noughts_eight (bs : List Bool) (j : Nat) : noughts bs j ++ List.replicate 8 false = noughts bs (j + 8) := by
  unfold noughts
  rw [List.append_assoc, List.replicate_append_replicate]
/-- A whole byte of noughts is laid. -/
theorem eight_at {W w1 : World} {B g : Nat} {v v1 : Value} {bs : List Bool} (h : WAt W B g v bs) (h8 : bs.length % 8 = 0) (hr : BytesAt w1 B v1 (pack bs ++ [0])) (hg : W.grownBy w1 v.ownBlock) :
    WAt ((w1.setCell ⟨g, 1, none⟩ v1).setCell ⟨g, 0, none⟩ (.int .i64 ((bs.length : Int) + 8))) B g v1 (bs ++ List.replicate 8 false) := by
  have h1 := Raw.put (Raw.grown h hg) hr h.2.2
  unfold WAt
  rw [pack_eight bs h8, List.length_append, List.length_replicate]
  exact h1.count
set_option maxHeartbeats 8000000 in
set_option maxRecDepth 100000 in
theorem unary_any (N : Nat) (bs : List Bool) (hN : N ≤ 16777216) (B g : Nat) (v : Value) (w : World) (h : WAt w B g v bs) (hl : bs.length + 16777300 < 1125899906842624) :
    Calls Try.prog 50 #[.pointer (some ⟨g, 0, none⟩), .int .i64 N] w fun e w' => e = .returned (.tuple #[]) ∧ ∃ v', WAt w' B g v' (noughts bs N ++ [true]) ∧ Moved B g w v w' v' := by
  have hup := Try.underlying28
  have H := Aside0.mk h
  clear h
  go_enter Try.func50, Try.ntmps50
  go_wp2
  go_loopg [1] N (fun k n wr => ∃ (v' : Value), k ≤ N ∧ n = .int .i64 k ∧ Aside0 (WAt wr B g v' (noughts bs (N - k))) ∧ Aside0 (Moved B g w v wr v'))
  case atStart => exact ⟨v, by omega, rfl, by rw [Nat.sub_self]; exact ⟨by simpa [noughts] using H.out⟩, ⟨Moved.refl B g w v⟩⟩
  case round =>
    obtain ⟨v', hk, rfl, HE, HM⟩ := hrel
    have hlen := noughts_length bs (N - gk)
    obtain ⟨cs, hcs⟩ : ∃ cs, noughts bs (N - gk) = cs := ⟨_, rfl⟩
    have HCS := Aside0.mk hcs
    rw [hcs] at HE hlen
    have c0 : wr.cell? ⟨g, 0, none⟩ = some (.int .i64 cs.length) := blk_cell HE.out.1 0
    have c1 : wr.cell? ⟨g, 1, none⟩ = some v' := blk_cell HE.out.1 1
    have hcl : cs.length < 1125899906842600 := by omega
    have HPL := Aside0.mk (pack_length cs)
    clear hlen hcs
    by_cases hgo : 8 ≤ gk ∧ cs.length % 8 = 0
    · obtain ⟨g8, h8⟩ := hgo
      have g8' : (8 : Int) ≤ (gk : Int) := by omega
      have h8' : (cs.length : Int) % 8 = 0 := by omega
      have HNX := Aside0.mk (noughts_eight bs (N - gk))
      have H8 := Aside0.mk h8
      clear h8
      go_wp2_with (first | (go_at_call 38; refine (at_any g _ _ c0).mono ?_; rintro e w' ⟨rfl, rfl⟩) | (at_builtin; (with_reducible refine app_list (w0 := w) (B := B) (v := v') (xs := pack cs) (.tmp 18) (.tmp 19) _ ?_ ?_ ?_ ?_ ?_ ?_ ?_ ?_ ?_); rfl; rfl; rfl; rfl; exact HE.out.2.1; exact HM.out.below; exact Nat.le_trans HE.out.2.2 (Nat.le_of_lt HE.out.lt); (rw [HPL.out]; omega); intro v1 w1 HO1 HB1 HG1 HV1; have hb1 := Raw.grown HE.out HG1.out; obtain ⟨A1, k1, e1⟩ := BytesAt.slice HO1.out; subst e1; have c11 : w1.cell? ⟨g, 1, none⟩ = some v' := blk_cell hb1 1; have f11 := blk_frozen hb1 1; have HR1 := Aside0.mk (Raw.put hb1 HO1.out HE.out.2.2)) | (go_at_call 56; refine (on_any g cs.length 8 _ (blk_cell HR1.out.1 0) (blk_frozen HR1.out.1 0) (by omega) (by omega) (by omega) (by omega)).mono ?_; rintro e w' ⟨rfl, rfl⟩))
      go_roundg (gk - 8)
      case measure => omega
      case rel =>
        have hE := eight_at HE.out H8.out HO1.out HG1.out
        have hM := ((Moved.app HM.out HG1.out HB1.out HV1.out).set HE.out.2.2 1 (.slice A1 ((pack cs).length + 1) k1)).set HE.out.2.2 0 (.int .i64 ((cs.length : Int) + 8))
        rw [HCS.out] at HNX
        rw [HNX.out] at hE
        refine ⟨_, by omega, ?_, by rw [show N - (gk - 8) = N - gk + 8 by omega]; exact ⟨hE⟩, ⟨hM⟩⟩
        rw [show ((gk - 8 : Nat) : Int) = (gk : Int) - 8 by omega]
    · have hst : ¬ (8 : Int) ≤ (gk : Int) ∨ ((8 : Int) ≤ (gk : Int) ∧ ((cs.length : Int) % 8 == 0) = false) := by
        rcases Nat.lt_or_ge gk 8 with q | q
        · exact .inl (by omega)
        · refine .inr ⟨by omega, ?_⟩
          simp
          omega
      have HE0 := HE
      have HM0 := HM
      have HCS0 := HCS
      clear hgo
      rcases hst with hst | ⟨hst, hst2⟩
      all_goals
        go_wp2_with (first | (go_at_call 38; refine (at_any g _ _ c0).mono ?_; rintro e w' ⟨rfl, rfl⟩))
        clear HE HM c0 c1 hcl HPL
        go_loopg [1] gk (fun k n wr2 => ∃ (v' : Value), k ≤ N ∧ n = .int .i64 k ∧ Aside0 (WAt wr2 B g v' (noughts bs (N - k))) ∧ Aside0 (Moved B g w v wr2 v'))
        case atStart => exact ⟨v', by omega, rfl, by rw [HCS0.out]; exact HE0, HM0⟩
        case round =>
          clear HE0 HM0 HCS0
          obtain ⟨v', hk, rfl, HE, HM⟩ := hrel
          by_cases hpos : 0 < gk
          · have hpos' : (0 : Int) < (gk : Int) := by omega
            have HB1 := Aside0.mk (bit_any (noughts bs (N - gk)) false B g v' wr HE.out (by rw [noughts_length]; omega))
            go_wp2_with fail
            refine HB1.out.mono ?_
            rintro e w2 ⟨rfl, v2, hE, hM⟩
            rw [noughts_one] at hE
            have HE2 := Aside0.mk hE
            have HM2 := Aside0.mk (HM.out.trans hM)
            clear hE hM HE HM
            obtain ⟨k2, rfl⟩ : ∃ k2, k2 = gk := ⟨_, rfl⟩
            go_wp2
            go_loopg [1] k2 (fun k n wr3 => ∃ (v' : Value), 1 ≤ k ∧ k ≤ k2 ∧ n = .int .i64 k ∧ Aside0 (WAt wr3 B g v' (noughts bs (N - k + 1))) ∧ Aside0 (Moved B g w v wr3 v'))
            case atStart => exact ⟨v2, by omega, by omega, rfl, HE2, HM2⟩
            case round =>
              clear HE2 HM2
              obtain ⟨v3, hj1, hj2, rfl, HE3, HM3⟩ := hrel
              have hlen := noughts_length bs (N - gk + 1)
              obtain ⟨cs2, hcs⟩ : ∃ cs, noughts bs (N - gk + 1) = cs := ⟨_, rfl⟩
              have HCS := Aside0.mk hcs
              rw [hcs] at HE3 hlen
              have c0 : wr.cell? ⟨g, 0, none⟩ = some (.int .i64 cs2.length) := blk_cell HE3.out.1 0
              have c1 : wr.cell? ⟨g, 1, none⟩ = some v3 := blk_cell HE3.out.1 1
              have hcl : cs2.length < 1125899906842610 := by omega
              have HPL := Aside0.mk (pack_length cs2)
              clear hlen hcs
              by_cases hgo : 9 ≤ gk ∧ cs2.length % 8 = 0
              · obtain ⟨g8, h8⟩ := hgo
                have g8' : (8 : Int) < (gk : Int) := by omega
                have h8' : (cs2.length : Int) % 8 = 0 := by omega
                have HNX := Aside0.mk (noughts_eight bs (N - gk + 1))
                have H8 := Aside0.mk h8
                clear h8
                go_wp2_with (first | (go_at_call 38; refine (at_any g _ _ c0).mono ?_; rintro e w' ⟨rfl, rfl⟩) | (at_builtin; (with_reducible refine app_list (w0 := w) (B := B) (v := v3) (xs := pack cs2) (.tmp 49) (.tmp 50) _ ?_ ?_ ?_ ?_ ?_ ?_ ?_ ?_ ?_); rfl; rfl; rfl; rfl; exact HE3.out.2.1; exact HM3.out.below; exact Nat.le_trans HE3.out.2.2 (Nat.le_of_lt HE3.out.lt); (rw [HPL.out]; omega); intro v1 w1 HO1 HB1 HG1 HV1; have hb1 := Raw.grown HE3.out HG1.out; obtain ⟨A1, k1, e1⟩ := BytesAt.slice HO1.out; subst e1; have c11 : w1.cell? ⟨g, 1, none⟩ = some v3 := blk_cell hb1 1; have f11 := blk_frozen hb1 1; have HR1 := Aside0.mk (Raw.put hb1 HO1.out HE3.out.2.2)) | (go_at_call 56; refine (on_any g cs2.length 8 _ (blk_cell HR1.out.1 0) (blk_frozen HR1.out.1 0) (by omega) (by omega) (by omega) (by omega)).mono ?_; rintro e w' ⟨rfl, rfl⟩))
                go_roundg (gk - 8)
                case measure => omega
                case rel =>
                  have hE := eight_at HE3.out H8.out HO1.out HG1.out
                  have hM := ((Moved.app HM3.out HG1.out HB1.out HV1.out).set HE3.out.2.2 1 (.slice A1 ((pack cs2).length + 1) k1)).set HE3.out.2.2 0 (.int .i64 ((cs2.length : Int) + 8))
                  rw [HCS.out] at HNX
                  rw [HNX.out] at hE
                  refine ⟨_, by omega, by omega, ?_, by rw [show N - (gk - 8) + 1 = N - gk + 1 + 8 by omega]; exact ⟨hE⟩, ⟨hM⟩⟩
                  rw [show ((gk - 8 : Nat) : Int) = (gk : Int) - 8 by omega]
              · have hst : ¬ (8 : Int) < (gk : Int) ∨ ((8 : Int) < (gk : Int) ∧ ((cs2.length : Int) % 8 == 0) = false) := by
                  rcases Nat.lt_or_ge gk 9 with q | q
                  · exact .inl (by omega)
                  · refine .inr ⟨by omega, ?_⟩
                    simp
                    omega
                clear hgo
                rcases hst with hst | ⟨hst, hst2⟩
                all_goals
                  go_wp2_with (first | (go_at_call 38; refine (at_any g _ _ c0).mono ?_; rintro e w' ⟨rfl, rfl⟩))
                  go_roundg (gk - 1)
                  case measure => omega
                  case rel => exact ⟨v3, by omega, by rw [show ((gk - 1 : Nat) : Int) = (gk : Int) - 1 by omega], by rw [show N - (gk - 1) = N - gk + 1 by omega, HCS.out]; exact HE3, HM3⟩
          · obtain rfl : gk = 0 := by omega
            have HB1 := Aside0.mk (bit_any (noughts bs (N - 0)) true B g v' wr HE.out (by rw [noughts_length]; omega))
            go_wp2_with fail
            refine HB1.out.mono ?_
            rintro e w2 ⟨rfl, v2, hE, hM⟩
            have HE2 := Aside0.mk hE
            have HM2 := Aside0.mk (HM.out.trans hM)
            clear hE hM
            go_wp2
            refine bodyPost_end (results_none rfl _ _ _) rfl ?_
            exact ⟨rfl, v2, by simpa using HE2.out, HM2.out⟩
end Go.Proofs.Ytfhekkoibmlmpaa.Hand

/- Printed by a program of ours (pp.sh), partly over contracts proved by hand. -/
namespace Go.Proofs.Ytfhekkoibmlmpaa.Q
open Go.RowKit Go.Proofs.YtfhekkoibmlmpaaW.PrintWords Go.Proofs.YtfhekkoibmlmpaaW.PrintLast Go.Proofs.YtfhekkoibmlmpaaW.PrintMore
attribute [local go_sem] max2_int min2_int max_two min_two max_three min_three max_four min_four   -- for this text's walks alone
set_option linter.unusedVariables false
set_option linter.unusedSimpArgs false

def errW : Option Int → Value
  | none => .nilIface
  | some c => .iface 0 (.int .i64 c)
theorem errW_none : errW none = .nilIface := rfl
theorem errW_some (c : Int) : errW (some c) = .iface 0 (.int .i64 c) := rfl

-- the values' own types

end Go.Proofs.Ytfhekkoibmlmpaa.Q

/- Printed by a program of ours (pp.sh), partly over contracts proved by hand. -/
namespace Go.Proofs.Ytfhekkoibmlmpaa.Q
open Go.RowKit Go.Proofs.YtfhekkoibmlmpaaW.PrintWords Go.Proofs.YtfhekkoibmlmpaaW.PrintLast Go.Proofs.YtfhekkoibmlmpaaW.PrintMore
attribute [local go_sem] max2_int min2_int max_two min_two max_three min_three max_four min_four   -- for this text's walks alone
set_option linter.unusedVariables false
set_option linter.unusedSimpArgs false

/-! ### lacquerlaw08_short: function 8 -/
def lacquerlaw08_short.l0 : Nat → List Int → Int → Option (Bool)
  | 0, _, _ => none
  | k + 1, x0, x3 => if x3 < (x0.length : Int) then (if 0 ≤ x3 then (if (rd x0 x3) > 4000 then (some false) else (if (rd x0 x3) < (-4000) then (some false) else (lacquerlaw08_short.l0 k x0 (wrap64 (x3 + 1))))) else (none)) else (some (decide ((x0.length : Int) ≤ 5000)))
def lacquerlaw08_short.f (k : Nat) (l0 : List Int) : Option (Bool) := lacquerlaw08_short.l0 k l0 0
set_option maxHeartbeats 8000000 in
set_option maxRecDepth 100000 in
theorem lacquerlaw08_short.calls (k : Nat) (A0 : Option Addr) (c0 : Nat) (l0 : List Int) (r : Bool) (w : World) (hr0 : Kd.C (Kd.int .i64) w A0 l0.length l0) (hc0 : l0.length ≤ c0) (h : lacquerlaw08_short.f k l0 = some r) :
    Calls Try.prog 8 #[.slice A0 l0.length c0] w fun e w' => e = .returned (.bool r) ∧ Drawn0 w w' := by
  have HR0 := Aside0.mk hr0
  have HC0 := Aside0.mk hc0
  clear hr0 hc0
  have H : (lacquerlaw08_short.l0 k l0 0) = some r := h
  clear h
  have H' := Aside0.mk H
  clear H
  go_enter Try.func8, Try.ntmps8
  go_wp2
  go_loopg [3] k (fun kq v3 w' => ∃ (x3_1 : Int), v3 = .int .i64 x3_1 ∧ Aside0 (lacquerlaw08_short.l0 kq l0 x3_1 = some r) ∧ Aside0 (kq ≤ k) ∧ Drawn0 w w')
  case atStart => exact ⟨(0), (by first | rfl | (simp; done) | (simp [*]; done)), H', ⟨Nat.le_refl _⟩, by repeat (first | exact Drawn0.refl _ | apply Drawn0.step)⟩
  case round =>
    clear H'
    obtain ⟨x3_1, rfl, HA, HK1, ⟨m1, rfl⟩⟩ := hrel
    cases gk with
    | zero => exact absurd HA.out (by simp [lacquerlaw08_short.l0])
    | succ k1 =>
      have H := HA.out
      clear HA
      simp only [lacquerlaw08_short.l0] at H
      by_cases c2 : x3_1 < (l0.length : Int)
      · rw [if_pos c2] at H
        have c2b0 : decide (x3_1 < (l0.length : Int)) = true := decide_eq_true c2
        clear c2
        by_cases c3 : 0 ≤ x3_1
        · rw [if_pos c3] at H
          have c3b0 : decide (0 ≤ x3_1) = true := decide_eq_true c3
          clear c3
          by_cases c4 : (rd l0 x3_1) > 4000
          · rw [if_pos c4] at H
            have c4b0 : decide (4000 < (rd l0 x3_1)) = true := decide_eq_true c4
            clear c4
            obtain rfl := Option.some.inj H
            have p101 : 0 ≤ (x3_1 : Int) := of_decide_eq_true (by first | (with_reducible assumption) | assumption)
            have q101 : x3_1 < (l0.length : Int) := of_decide_eq_true (by first | (with_reducible assumption) | assumption)
            obtain ⟨ad101, e101, hx101_0⟩ := Kd.at_int HR0.out x3_1 p101 q101
            cases e101
            replace p101 := eq_true p101
            replace q101 := eq_true q101
            go_wp2
            go_ret
            exact ⟨by first | rfl | (simp; done) | (simp [*]; done), by repeat (first | exact Drawn0.refl _ | apply Drawn0.step)⟩
          · rw [if_neg c4] at H
            have c4b0 : decide (4000 < (rd l0 x3_1)) = false := decide_eq_false c4
            clear c4
            by_cases c5 : (rd l0 x3_1) < (-4000)
            · rw [if_pos c5] at H
              have c5b0 : decide ((rd l0 x3_1) < (-4000)) = true := decide_eq_true c5
              clear c5
              obtain rfl := Option.some.inj H
              have p101 : 0 ≤ (x3_1 : Int) := of_decide_eq_true (by first | (with_reducible assumption) | assumption)
              have q101 : x3_1 < (l0.length : Int) := of_decide_eq_true (by first | (with_reducible assumption) | assumption)
              obtain ⟨ad101, e101, hx101_0⟩ := Kd.at_int HR0.out x3_1 p101 q101
              cases e101
              replace p101 := eq_true p101
              replace q101 := eq_true q101
              have p102 : 0 ≤ (x3_1 : Int) := of_decide_eq_true (by first | (with_reducible assumption) | assumption)
              have q102 : x3_1 < (l0.length : Int) := of_decide_eq_true (by first | (with_reducible assumption) | assumption)
              obtain ⟨ad102, e102, hx102_0⟩ := Kd.at_int HR0.out x3_1 p102 q102
              obtain rfl : ad101 = ad102 := (by injection e102)
              replace p102 := eq_true p102
              replace q102 := eq_true q102
              go_wp2
              go_ret
              exact ⟨by first | rfl | (simp; done) | (simp [*]; done), by repeat (first | exact Drawn0.refl _ | apply Drawn0.step)⟩
            · rw [if_neg c5] at H
              have c5b0 : decide ((rd l0 x3_1) < (-4000)) = false := decide_eq_false c5
              clear c5
              have H' := Aside0.mk H
              clear H
              have p101 : 0 ≤ (x3_1 : Int) := of_decide_eq_true (by first | (with_reducible assumption) | assumption)
              have q101 : x3_1 < (l0.length : Int) := of_decide_eq_true (by first | (with_reducible assumption) | assumption)
              obtain ⟨ad101, e101, hx101_0⟩ := Kd.at_int HR0.out x3_1 p101 q101
              cases e101
              replace p101 := eq_true p101
              replace q101 := eq_true q101
              have p102 : 0 ≤ (x3_1 : Int) := of_decide_eq_true (by first | (with_reducible assumption) | assumption)
              have q102 : x3_1 < (l0.length : Int) := of_decide_eq_true (by first | (with_reducible assumption) | assumption)
              obtain ⟨ad102, e102, hx102_0⟩ := Kd.at_int HR0.out x3_1 p102 q102
              obtain rfl : ad101 = ad102 := (by injection e102)
              replace p102 := eq_true p102
              replace q102 := eq_true q102
              go_wp2
              go_roundg k1
              case measure => have := HK1.out; omega
              case rel => exact ⟨(wrap64 (x3_1 + 1)), (by first | rfl | (simp; done) | (simp [*]; done)), H', ⟨by have := HK1.out; omega⟩, by repeat (first | exact Drawn0.refl _ | apply Drawn0.step)⟩
        · rw [if_neg c3] at H
          exact absurd H (by simp)
      · rw [if_neg c2] at H
        have c2b0 : decide (x3_1 < (l0.length : Int)) = false := decide_eq_false c2
        clear c2
        obtain rfl := Option.some.inj H
        go_wp2
        go_ret
        exact ⟨by first | rfl | (simp; done) | (simp [*]; done), by repeat (first | exact Drawn0.refl _ | apply Drawn0.step)⟩

/-- A state of type 64 at block g of W; what its slices lead to came in by w0. -/
def IsS64 (w0 W : World) (g : Nat) (f0 : Int) (f1 : List Int) : Prop := ∃ A1 c1, W.heap[g]? = some (.cells #[.int .i64 f0, .slice A1 f1.length c1] 64 (0, 0)) ∧ w0.heap.size ≤ g ∧ Kd.C (Kd.int .u8) w0 A1 f1.length f1
theorem IsS64.grown {w0 W : World} {g : Nat} {f0 : Int} {f1 : List Int} {W1 : World} {row : Option Nat} (h : IsS64 w0 W g f0 f1) (hw : W.grownBy W1 row) (hne : some g ≠ row) : IsS64 w0 W1 g f0 f1 := by
  obtain ⟨A1, c1, hb, hg, hr1⟩ := h
  exact ⟨A1, c1, blk_grown hb hw hne, hg, hr1⟩
theorem IsS64.kept {w0 W : World} {g : Nat} {f0 : Int} {f1 : List Int} {W1 : World} {S : Nat → Prop} (h : IsS64 w0 W g f0 f1) (hk : Kept W W1 S) (hne : ¬ S g) : IsS64 w0 W1 g f0 f1 := by
  obtain ⟨A1, c1, hb, hg, hr1⟩ := h
  exact ⟨A1, c1, blk_kept hb hk hne, hg, hr1⟩
theorem IsS64.below {w0 W : World} {g : Nat} {f0 : Int} {f1 : List Int} {W1 : World} (h : IsS64 w0 W g f0 f1) (hw : Below W.heap.size W W1) : IsS64 w0 W1 g f0 f1 := h.grown (grown_of_below hw none) (by simp)
theorem IsS64.alloc {w0 W : World} {g : Nat} {f0 : Int} {f1 : List Int} (h : IsS64 w0 W g f0 f1) (o : Obj) : IsS64 w0 (W.alloc o) g f0 f1 := h.below (below_alloc (Below.refl _ _) o)
theorem IsS64.drewN {w0 W : World} {g : Nat} {f0 : Int} {f1 : List Int} (h : IsS64 w0 W g f0 f1) (m : Nat) : IsS64 w0 (W.drewN m) g f0 f1 := h
theorem IsS64.drew {w0 W : World} {g : Nat} {f0 : Int} {f1 : List Int} (h : IsS64 w0 W g f0 f1) : IsS64 w0 W.drew g f0 f1 := h
theorem IsS64.at_ {w0 W : World} {g : Nat} {f0 : Int} {f1 : List Int} {w' : World} {m : Nat} (hq : W.drewN m = w') (h : IsS64 w0 W g f0 f1) : IsS64 w0 w' g f0 f1 := by subst hq; exact IsS64.drewN h m
theorem IsS64.apart {w0 W : World} {g : Nat} {f0 : Int} {f1 : List Int} {α : Type} {d : Kd α} {e : Nat} {base : Nat} {ok : Nat → Prop} {v : Value} {xs : List α} (h : IsS64 w0 W g f0 f1) (ho : d.R e W base ok v xs) (ht : ∀ q, q ∈ e :: d.E → q ≠ 64) : d.R e W base (fun k => ok k ∧ k ≠ g) v xs := by
  obtain ⟨A1, c1, hb, hg, hr1⟩ := h
  exact Kd.R_types ho hb ht
theorem IsS64.own_ne {w0 W : World} {g : Nat} {f0 : Int} {f1 : List Int} {α : Type} {d : Kd α} {e : Nat} {base : Nat} {ok : Nat → Prop} {v : Value} {xs : List α} (h : IsS64 w0 W g f0 f1) (ho : d.R e W base ok v xs) (ht : e ≠ 64) : some g ≠ v.ownBlock := by
  obtain ⟨A1, c1, hb, hg, hr1⟩ := h
  exact Kd.R_ne ho hb ht
theorem IsS64.lt {w0 W : World} {g : Nat} {f0 : Int} {f1 : List Int} (h : IsS64 w0 W g f0 f1) : g < W.heap.size := by
  obtain ⟨A1, c1, hb, hg, hr1⟩ := h
  exact blk_lt hb
theorem IsS64.ge {w0 W : World} {g : Nat} {f0 : Int} {f1 : List Int} (h : IsS64 w0 W g f0 f1) : w0.heap.size ≤ g := by
  obtain ⟨A1, c1, hb, hg, hr1⟩ := h
  exact hg
theorem IsS64.new (w0 W : World) (A1 : Option Addr) (c1 : Nat) (f0 : Int) (f1 : List Int) (hB : Below w0.heap.size w0 W) (hr1 : Kd.C (Kd.int .u8) w0 A1 f1.length f1) : IsS64 w0 (W.alloc (.cells #[.int .i64 f0, .slice A1 f1.length c1] 64)) W.heap.size f0 f1 := ⟨A1, c1, by simpa using heap_alloc_new W _, hB.size, hr1⟩

/-! ### bits_New: function 10 -/

-- NOT PRINTED: function 48 (bits_Writer_bit)

-- NOT PRINTED: function 30 (bits_Writer_lay)

-- NOT PRINTED: function 11 (bits_Writer_Put)

/-! ### rice_shape: function 39 -/
def rice_shape.f (a0_0 : Int) (a0_1 : Int) (l0_2 : List Int) (l0_3 : List Int) (a1 : Int) (a2 : Int) : Option (Bool) := if (Go.bits .andNot .i64 a0_0 1) = 0 then (if a0_1 < 0 then (some false) else (if a0_1 > 15 then (some false) else (if a1 < 1 then (some false) else (if a1 > 65535 then (some false) else (if a2 < 0 then (some false) else (if a2 > 32 then (some false) else (if 0 ≤ a0_1 then (if (shl .i64 (shr .i64 a1 a0_1) a0_1) = a1 then (some (decide ((shr .i64 a1 a0_1) ≥ a2))) else (some false)) else (none)))))))) else (some false)
set_option maxHeartbeats 8000000 in
set_option maxRecDepth 100000 in
theorem rice_shape.calls (a0_0 : Int) (a0_1 : Int) (A0_2 : Option Addr) (c0_2 : Nat) (l0_2 : List Int) (A0_3 : Option Addr) (c0_3 : Nat) (l0_3 : List Int) (a1 : Int) (a2 : Int) (r : Bool) (w : World) (hr0_2 : Kd.C (Kd.int .i64) w A0_2 l0_2.length l0_2) (hc0_2 : l0_2.length ≤ c0_2) (hr0_3 : Kd.C (Kd.int .i64) w A0_3 l0_3.length l0_3) (hc0_3 : l0_3.length ≤ c0_3) (h : rice_shape.f a0_0 a0_1 l0_2 l0_3 a1 a2 = some r) :
    Calls Try.prog 39 #[.agg #[.int .i64 a0_0, .int .i64 a0_1, .slice A0_2 l0_2.length c0_2, .slice A0_3 l0_3.length c0_3], .int .i64 a1, .int .i64 a2] w fun e w' => e = .returned (.bool r) ∧ Below w.heap.size w w' := by
  have hu24 := Try.underlying24
  have HR0_2 := Aside0.mk hr0_2
  have HC0_2 := Aside0.mk hc0_2
  clear hr0_2 hc0_2
  have HR0_3 := Aside0.mk hr0_3
  have HC0_3 := Aside0.mk hc0_3
  clear hr0_3 hc0_3
  have HB := Aside0.mk (Below.refl w.heap.size w)
  have H : (if (Go.bits .andNot .i64 a0_0 1) = 0 then (if a0_1 < 0 then (some false) else (if a0_1 > 15 then (some false) else (if a1 < 1 then (some false) else (if a1 > 65535 then (some false) else (if a2 < 0 then (some false) else (if a2 > 32 then (some false) else (if 0 ≤ a0_1 then (if (shl .i64 (shr .i64 a1 a0_1) a0_1) = a1 then (some (decide ((shr .i64 a1 a0_1) ≥ a2))) else (some false)) else (none)))))))) else (some false)) = some r := h
  clear h
  by_cases c4 : (Go.bits .andNot .i64 a0_0 1) = 0
  · rw [if_pos c4] at H
    have c4b0 : ((Go.bits .andNot .i64 a0_0 1) == 0) = true := beq_iff_eq.mpr c4
    have c4b1 : ((Go.bits .andNot .i64 a0_0 1) != 0) = false := bne_eq_false_iff_eq.mpr c4
    clear c4
    by_cases c5 : a0_1 < 0
    · rw [if_pos c5] at H
      have c5b0 : decide (a0_1 < 0) = true := decide_eq_true c5
      clear c5
      obtain rfl := Option.some.inj H
      go_enter Try.func39, Try.ntmps39
      go_wp2_with (first | ((with_reducible refine gate_dst (N := 3) rfl ?_); refine box_event ?hg (N := 3) ?hd (cs := #[.int .i64 a0_0, .int .i64 a0_1, .slice A0_2 l0_2.length c0_2, .slice A0_3 l0_3.length c0_3]) (t := 24) ?hr ?_; (case hd => rfl); (case hg => rfl); (case hr => first | (go_simp; done) | (go_simp; rfl)); intro gb104 hg w6 hbox hb; have n0_ := Aside0.mk (below_step (by repeat (first | (with_reducible first | exact HB.out | apply below_alloc | apply pw_below_drewN | apply below_drew1) | exact HB.out)) hb); have n1_ := Aside0.mk (hbox); have n2_ := Aside0.mk ((by rw [hg]; exact (below_size (by repeat (first | (with_reducible first | exact HB.out | apply below_alloc | apply pw_below_drewN | apply below_drew1) | exact HB.out))) : w.heap.size ≤ gb104)); have n3_ := Aside0.mk ((by rw [hg]; exact (below_size (by repeat (first | (with_reducible first | exact HB.out | apply below_alloc | apply pw_below_drewN | apply below_drew1) | exact HB.out))) : w.heap.size ≤ gb104)); clear HB; have HB := n0_; have BK104 := n1_; have GW104 := n2_; have GE104 := n3_; clear n0_ n1_ n2_ n3_; clear hb hbox hg; have hcz7_0 : w6.cell? ⟨gb104, 0, none⟩ = some (.int .i64 a0_0) := (blk_cell BK104.out 0).trans rfl; have hcz7_1 : w6.cell? ⟨gb104, 1, none⟩ = some (.int .i64 a0_1) := (blk_cell BK104.out 1).trans rfl; have hcz7_2 : w6.cell? ⟨gb104, 2, none⟩ = some (.slice A0_2 l0_2.length c0_2) := (blk_cell BK104.out 2).trans rfl; have hcz7_3 : w6.cell? ⟨gb104, 3, none⟩ = some (.slice A0_3 l0_3.length c0_3) := (blk_cell BK104.out 3).trans rfl; have hfz7_0 := blk_frozen BK104.out 0; have hfz7_1 := blk_frozen BK104.out 1; have hfz7_2 := blk_frozen BK104.out 2; have hfz7_3 := blk_frozen BK104.out 3))
      go_ret
      exact ⟨by first | rfl | (simp [errW_none, errW_some] <;> rfl) | (simp [*, errW_none, errW_some] <;> rfl), by repeat (first | (with_reducible first | exact HB.out | apply below_alloc | apply pw_below_drewN | apply below_drew1 | refine below_set ?_ GE104.out) | exact HB.out)⟩
    · rw [if_neg c5] at H
      have c5b0 : decide (a0_1 < 0) = false := decide_eq_false c5
      clear c5
      by_cases c8 : a0_1 > 15
      · rw [if_pos c8] at H
        have c8b0 : decide (15 < a0_1) = true := decide_eq_true c8
        clear c8
        obtain rfl := Option.some.inj H
        go_enter Try.func39, Try.ntmps39
        go_wp2_with (first | ((with_reducible refine gate_dst (N := 3) rfl ?_); refine box_event ?hg (N := 3) ?hd (cs := #[.int .i64 a0_0, .int .i64 a0_1, .slice A0_2 l0_2.length c0_2, .slice A0_3 l0_3.length c0_3]) (t := 24) ?hr ?_; (case hd => rfl); (case hg => rfl); (case hr => first | (go_simp; done) | (go_simp; rfl)); intro gb104 hg w9 hbox hb; have n0_ := Aside0.mk (below_step (by repeat (first | (with_reducible first | exact HB.out | apply below_alloc | apply pw_below_drewN | apply below_drew1) | exact HB.out)) hb); have n1_ := Aside0.mk (hbox); have n2_ := Aside0.mk ((by rw [hg]; exact (below_size (by repeat (first | (with_reducible first | exact HB.out | apply below_alloc | apply pw_below_drewN | apply below_drew1) | exact HB.out))) : w.heap.size ≤ gb104)); have n3_ := Aside0.mk ((by rw [hg]; exact (below_size (by repeat (first | (with_reducible first | exact HB.out | apply below_alloc | apply pw_below_drewN | apply below_drew1) | exact HB.out))) : w.heap.size ≤ gb104)); clear HB; have HB := n0_; have BK104 := n1_; have GW104 := n2_; have GE104 := n3_; clear n0_ n1_ n2_ n3_; clear hb hbox hg; have hcz10_0 : w9.cell? ⟨gb104, 0, none⟩ = some (.int .i64 a0_0) := (blk_cell BK104.out 0).trans rfl; have hcz10_1 : w9.cell? ⟨gb104, 1, none⟩ = some (.int .i64 a0_1) := (blk_cell BK104.out 1).trans rfl; have hcz10_2 : w9.cell? ⟨gb104, 2, none⟩ = some (.slice A0_2 l0_2.length c0_2) := (blk_cell BK104.out 2).trans rfl; have hcz10_3 : w9.cell? ⟨gb104, 3, none⟩ = some (.slice A0_3 l0_3.length c0_3) := (blk_cell BK104.out 3).trans rfl; have hfz10_0 := blk_frozen BK104.out 0; have hfz10_1 := blk_frozen BK104.out 1; have hfz10_2 := blk_frozen BK104.out 2; have hfz10_3 := blk_frozen BK104.out 3))
        go_ret
        exact ⟨by first | rfl | (simp [errW_none, errW_some] <;> rfl) | (simp [*, errW_none, errW_some] <;> rfl), by repeat (first | (with_reducible first | exact HB.out | apply below_alloc | apply pw_below_drewN | apply below_drew1 | refine below_set ?_ GE104.out) | exact HB.out)⟩
      · rw [if_neg c8] at H
        have c8b0 : decide (15 < a0_1) = false := decide_eq_false c8
        clear c8
        by_cases c11 : a1 < 1
        · rw [if_pos c11] at H
          have c11b0 : decide (a1 < 1) = true := decide_eq_true c11
          clear c11
          obtain rfl := Option.some.inj H
          go_enter Try.func39, Try.ntmps39
          go_wp2_with (first | ((with_reducible refine gate_dst (N := 3) rfl ?_); refine box_event ?hg (N := 3) ?hd (cs := #[.int .i64 a0_0, .int .i64 a0_1, .slice A0_2 l0_2.length c0_2, .slice A0_3 l0_3.length c0_3]) (t := 24) ?hr ?_; (case hd => rfl); (case hg => rfl); (case hr => first | (go_simp; done) | (go_simp; rfl)); intro gb104 hg w12 hbox hb; have n0_ := Aside0.mk (below_step (by repeat (first | (with_reducible first | exact HB.out | apply below_alloc | apply pw_below_drewN | apply below_drew1) | exact HB.out)) hb); have n1_ := Aside0.mk (hbox); have n2_ := Aside0.mk ((by rw [hg]; exact (below_size (by repeat (first | (with_reducible first | exact HB.out | apply below_alloc | apply pw_below_drewN | apply below_drew1) | exact HB.out))) : w.heap.size ≤ gb104)); have n3_ := Aside0.mk ((by rw [hg]; exact (below_size (by repeat (first | (with_reducible first | exact HB.out | apply below_alloc | apply pw_below_drewN | apply below_drew1) | exact HB.out))) : w.heap.size ≤ gb104)); clear HB; have HB := n0_; have BK104 := n1_; have GW104 := n2_; have GE104 := n3_; clear n0_ n1_ n2_ n3_; clear hb hbox hg; have hcz13_0 : w12.cell? ⟨gb104, 0, none⟩ = some (.int .i64 a0_0) := (blk_cell BK104.out 0).trans rfl; have hcz13_1 : w12.cell? ⟨gb104, 1, none⟩ = some (.int .i64 a0_1) := (blk_cell BK104.out 1).trans rfl; have hcz13_2 : w12.cell? ⟨gb104, 2, none⟩ = some (.slice A0_2 l0_2.length c0_2) := (blk_cell BK104.out 2).trans rfl; have hcz13_3 : w12.cell? ⟨gb104, 3, none⟩ = some (.slice A0_3 l0_3.length c0_3) := (blk_cell BK104.out 3).trans rfl; have hfz13_0 := blk_frozen BK104.out 0; have hfz13_1 := blk_frozen BK104.out 1; have hfz13_2 := blk_frozen BK104.out 2; have hfz13_3 := blk_frozen BK104.out 3))
          go_ret
          exact ⟨by first | rfl | (simp [errW_none, errW_some] <;> rfl) | (simp [*, errW_none, errW_some] <;> rfl), by repeat (first | (with_reducible first | exact HB.out | apply below_alloc | apply pw_below_drewN | apply below_drew1 | refine below_set ?_ GE104.out) | exact HB.out)⟩
        · rw [if_neg c11] at H
          have c11b0 : decide (a1 < 1) = false := decide_eq_false c11
          clear c11
          by_cases c14 : a1 > 65535
          · rw [if_pos c14] at H
            have c14b0 : decide (65535 < a1) = true := decide_eq_true c14
            clear c14
            obtain rfl := Option.some.inj H
            go_enter Try.func39, Try.ntmps39
            go_wp2_with (first | ((with_reducible refine gate_dst (N := 3) rfl ?_); refine box_event ?hg (N := 3) ?hd (cs := #[.int .i64 a0_0, .int .i64 a0_1, .slice A0_2 l0_2.length c0_2, .slice A0_3 l0_3.length c0_3]) (t := 24) ?hr ?_; (case hd => rfl); (case hg => rfl); (case hr => first | (go_simp; done) | (go_simp; rfl)); intro gb104 hg w15 hbox hb; have n0_ := Aside0.mk (below_step (by repeat (first | (with_reducible first | exact HB.out | apply below_alloc | apply pw_below_drewN | apply below_drew1) | exact HB.out)) hb); have n1_ := Aside0.mk (hbox); have n2_ := Aside0.mk ((by rw [hg]; exact (below_size (by repeat (first | (with_reducible first | exact HB.out | apply below_alloc | apply pw_below_drewN | apply below_drew1) | exact HB.out))) : w.heap.size ≤ gb104)); have n3_ := Aside0.mk ((by rw [hg]; exact (below_size (by repeat (first | (with_reducible first | exact HB.out | apply below_alloc | apply pw_below_drewN | apply below_drew1) | exact HB.out))) : w.heap.size ≤ gb104)); clear HB; have HB := n0_; have BK104 := n1_; have GW104 := n2_; have GE104 := n3_; clear n0_ n1_ n2_ n3_; clear hb hbox hg; have hcz16_0 : w15.cell? ⟨gb104, 0, none⟩ = some (.int .i64 a0_0) := (blk_cell BK104.out 0).trans rfl; have hcz16_1 : w15.cell? ⟨gb104, 1, none⟩ = some (.int .i64 a0_1) := (blk_cell BK104.out 1).trans rfl; have hcz16_2 : w15.cell? ⟨gb104, 2, none⟩ = some (.slice A0_2 l0_2.length c0_2) := (blk_cell BK104.out 2).trans rfl; have hcz16_3 : w15.cell? ⟨gb104, 3, none⟩ = some (.slice A0_3 l0_3.length c0_3) := (blk_cell BK104.out 3).trans rfl; have hfz16_0 := blk_frozen BK104.out 0; have hfz16_1 := blk_frozen BK104.out 1; have hfz16_2 := blk_frozen BK104.out 2; have hfz16_3 := blk_frozen BK104.out 3))
            go_ret
            exact ⟨by first | rfl | (simp [errW_none, errW_some] <;> rfl) | (simp [*, errW_none, errW_some] <;> rfl), by repeat (first | (with_reducible first | exact HB.out | apply below_alloc | apply pw_below_drewN | apply below_drew1 | refine below_set ?_ GE104.out) | exact HB.out)⟩
          · rw [if_neg c14] at H
            have c14b0 : decide (65535 < a1) = false := decide_eq_false c14
            clear c14
            by_cases c17 : a2 < 0
            · rw [if_pos c17] at H
              have c17b0 : decide (a2 < 0) = true := decide_eq_true c17
              clear c17
              obtain rfl := Option.some.inj H
              go_enter Try.func39, Try.ntmps39
              go_wp2_with (first | ((with_reducible refine gate_dst (N := 3) rfl ?_); refine box_event ?hg (N := 3) ?hd (cs := #[.int .i64 a0_0, .int .i64 a0_1, .slice A0_2 l0_2.length c0_2, .slice A0_3 l0_3.length c0_3]) (t := 24) ?hr ?_; (case hd => rfl); (case hg => rfl); (case hr => first | (go_simp; done) | (go_simp; rfl)); intro gb104 hg w18 hbox hb; have n0_ := Aside0.mk (below_step (by repeat (first | (with_reducible first | exact HB.out | apply below_alloc | apply pw_below_drewN | apply below_drew1) | exact HB.out)) hb); have n1_ := Aside0.mk (hbox); have n2_ := Aside0.mk ((by rw [hg]; exact (below_size (by repeat (first | (with_reducible first | exact HB.out | apply below_alloc | apply pw_below_drewN | apply below_drew1) | exact HB.out))) : w.heap.size ≤ gb104)); have n3_ := Aside0.mk ((by rw [hg]; exact (below_size (by repeat (first | (with_reducible first | exact HB.out | apply below_alloc | apply pw_below_drewN | apply below_drew1) | exact HB.out))) : w.heap.size ≤ gb104)); clear HB; have HB := n0_; have BK104 := n1_; have GW104 := n2_; have GE104 := n3_; clear n0_ n1_ n2_ n3_; clear hb hbox hg; have hcz19_0 : w18.cell? ⟨gb104, 0, none⟩ = some (.int .i64 a0_0) := (blk_cell BK104.out 0).trans rfl; have hcz19_1 : w18.cell? ⟨gb104, 1, none⟩ = some (.int .i64 a0_1) := (blk_cell BK104.out 1).trans rfl; have hcz19_2 : w18.cell? ⟨gb104, 2, none⟩ = some (.slice A0_2 l0_2.length c0_2) := (blk_cell BK104.out 2).trans rfl; have hcz19_3 : w18.cell? ⟨gb104, 3, none⟩ = some (.slice A0_3 l0_3.length c0_3) := (blk_cell BK104.out 3).trans rfl; have hfz19_0 := blk_frozen BK104.out 0; have hfz19_1 := blk_frozen BK104.out 1; have hfz19_2 := blk_frozen BK104.out 2; have hfz19_3 := blk_frozen BK104.out 3))
              go_ret
              exact ⟨by first | rfl | (simp [errW_none, errW_some] <;> rfl) | (simp [*, errW_none, errW_some] <;> rfl), by repeat (first | (with_reducible first | exact HB.out | apply below_alloc | apply pw_below_drewN | apply below_drew1 | refine below_set ?_ GE104.out) | exact HB.out)⟩
            · rw [if_neg c17] at H
              have c17b0 : decide (a2 < 0) = false := decide_eq_false c17
              clear c17
              by_cases c20 : a2 > 32
              · rw [if_pos c20] at H
                have c20b0 : decide (32 < a2) = true := decide_eq_true c20
                clear c20
                obtain rfl := Option.some.inj H
                go_enter Try.func39, Try.ntmps39
                go_wp2_with (first | ((with_reducible refine gate_dst (N := 3) rfl ?_); refine box_event ?hg (N := 3) ?hd (cs := #[.int .i64 a0_0, .int .i64 a0_1, .slice A0_2 l0_2.length c0_2, .slice A0_3 l0_3.length c0_3]) (t := 24) ?hr ?_; (case hd => rfl); (case hg => rfl); (case hr => first | (go_simp; done) | (go_simp; rfl)); intro gb104 hg w21 hbox hb; have n0_ := Aside0.mk (below_step (by repeat (first | (with_reducible first | exact HB.out | apply below_alloc | apply pw_below_drewN | apply below_drew1) | exact HB.out)) hb); have n1_ := Aside0.mk (hbox); have n2_ := Aside0.mk ((by rw [hg]; exact (below_size (by repeat (first | (with_reducible first | exact HB.out | apply below_alloc | apply pw_below_drewN | apply below_drew1) | exact HB.out))) : w.heap.size ≤ gb104)); have n3_ := Aside0.mk ((by rw [hg]; exact (below_size (by repeat (first | (with_reducible first | exact HB.out | apply below_alloc | apply pw_below_drewN | apply below_drew1) | exact HB.out))) : w.heap.size ≤ gb104)); clear HB; have HB := n0_; have BK104 := n1_; have GW104 := n2_; have GE104 := n3_; clear n0_ n1_ n2_ n3_; clear hb hbox hg; have hcz22_0 : w21.cell? ⟨gb104, 0, none⟩ = some (.int .i64 a0_0) := (blk_cell BK104.out 0).trans rfl; have hcz22_1 : w21.cell? ⟨gb104, 1, none⟩ = some (.int .i64 a0_1) := (blk_cell BK104.out 1).trans rfl; have hcz22_2 : w21.cell? ⟨gb104, 2, none⟩ = some (.slice A0_2 l0_2.length c0_2) := (blk_cell BK104.out 2).trans rfl; have hcz22_3 : w21.cell? ⟨gb104, 3, none⟩ = some (.slice A0_3 l0_3.length c0_3) := (blk_cell BK104.out 3).trans rfl; have hfz22_0 := blk_frozen BK104.out 0; have hfz22_1 := blk_frozen BK104.out 1; have hfz22_2 := blk_frozen BK104.out 2; have hfz22_3 := blk_frozen BK104.out 3))
                go_ret
                exact ⟨by first | rfl | (simp [errW_none, errW_some] <;> rfl) | (simp [*, errW_none, errW_some] <;> rfl), by repeat (first | (with_reducible first | exact HB.out | apply below_alloc | apply pw_below_drewN | apply below_drew1 | refine below_set ?_ GE104.out) | exact HB.out)⟩
              · rw [if_neg c20] at H
                have c20b0 : decide (32 < a2) = false := decide_eq_false c20
                clear c20
                by_cases c23 : 0 ≤ a0_1
                · rw [if_pos c23] at H
                  have c23b0 := eq_true c23
                  have c23b1 : decide (0 ≤ a0_1) = true := decide_eq_true c23
                  clear c23
                  obtain ⟨ji24, hji24⟩ : ∃ j_ : Int, (shr .i64 a1 a0_1) = j_ := ⟨_, rfl⟩
                  replace H : (if (shl .i64 (ji24) a0_1) = a1 then (some (decide ((ji24) ≥ a2))) else (some false)) = some r := by first | (rw [hji24] at H; exact H) | (simp only [hji24] at H ⊢; exact H)
                  have hji24_ : (a1 / 2 ^ min a0_1.toNat 64) = ji24 := hji24
                  have hji24z : a0_1 ≤ 64 → (a1 / 2 ^ a0_1.toNat) = ji24 := shr_small hji24
                  have c25b0 := eq_true (of_decide_eq_true (by first | (with_reducible assumption) | assumption) : 0 ≤ a0_1)
                  obtain ⟨ji26, hji26⟩ : ∃ j_ : Int, (shl .i64 (ji24) a0_1) = j_ := ⟨_, rfl⟩
                  replace H : (if (ji26) = a1 then (some (decide ((ji24) ≥ a2))) else (some false)) = some r := by first | (rw [hji26] at H; exact H) | (simp only [hji26] at H ⊢; exact H)
                  have hji26_ : (IntKind.i64.wrap ((ji24) * 2 ^ min a0_1.toNat 64)) = ji26 := hji26
                  have hji26z : a0_1 ≤ 64 → (IntKind.i64.wrap ((ji24) * 2 ^ a0_1.toNat)) = ji26 := shl_small hji26
                  have hji26y : (wrap64 ((ji24) * 2 ^ min a0_1.toNat 64)) = ji26 := (i64_w _).symm.trans hji26_
                  have hji26x : a0_1 ≤ 64 → (wrap64 ((ji24) * 2 ^ a0_1.toNat)) = ji26 := fun h_ => (i64_w _).symm.trans (hji26z h_)
                  by_cases c27 : (ji26) = a1
                  · rw [if_pos c27] at H
                    have c27b0 : ((ji26) == a1) = true := beq_iff_eq.mpr c27
                    have c27b1 : ((ji26) != a1) = false := bne_eq_false_iff_eq.mpr c27
                    clear c27
                    obtain rfl := Option.some.inj H
                    go_enter Try.func39, Try.ntmps39
                    go_wp2_with (first | ((with_reducible refine gate_dst (N := 3) rfl ?_); refine box_event ?hg (N := 3) ?hd (cs := #[.int .i64 a0_0, .int .i64 a0_1, .slice A0_2 l0_2.length c0_2, .slice A0_3 l0_3.length c0_3]) (t := 24) ?hr ?_; (case hd => rfl); (case hg => rfl); (case hr => first | (go_simp; done) | (go_simp; rfl)); intro gb104 hg w28 hbox hb; have n0_ := Aside0.mk (below_step (by repeat (first | (with_reducible first | exact HB.out | apply below_alloc | apply pw_below_drewN | apply below_drew1) | exact HB.out)) hb); have n1_ := Aside0.mk (hbox); have n2_ := Aside0.mk ((by rw [hg]; exact (below_size (by repeat (first | (with_reducible first | exact HB.out | apply below_alloc | apply pw_below_drewN | apply below_drew1) | exact HB.out))) : w.heap.size ≤ gb104)); have n3_ := Aside0.mk ((by rw [hg]; exact (below_size (by repeat (first | (with_reducible first | exact HB.out | apply below_alloc | apply pw_below_drewN | apply below_drew1) | exact HB.out))) : w.heap.size ≤ gb104)); clear HB; have HB := n0_; have BK104 := n1_; have GW104 := n2_; have GE104 := n3_; clear n0_ n1_ n2_ n3_; clear hb hbox hg; have hcz29_0 : w28.cell? ⟨gb104, 0, none⟩ = some (.int .i64 a0_0) := (blk_cell BK104.out 0).trans rfl; have hcz29_1 : w28.cell? ⟨gb104, 1, none⟩ = some (.int .i64 a0_1) := (blk_cell BK104.out 1).trans rfl; have hcz29_2 : w28.cell? ⟨gb104, 2, none⟩ = some (.slice A0_2 l0_2.length c0_2) := (blk_cell BK104.out 2).trans rfl; have hcz29_3 : w28.cell? ⟨gb104, 3, none⟩ = some (.slice A0_3 l0_3.length c0_3) := (blk_cell BK104.out 3).trans rfl; have hfz29_0 := blk_frozen BK104.out 0; have hfz29_1 := blk_frozen BK104.out 1; have hfz29_2 := blk_frozen BK104.out 2; have hfz29_3 := blk_frozen BK104.out 3))
                    go_ret
                    exact ⟨by first | rfl | (simp [errW_none, errW_some] <;> rfl) | (simp only [← hji24, ← hji26]; first | rfl | (simp [errW_none, errW_some] <;> rfl)) | (simp [*, errW_none, errW_some] <;> rfl), by repeat (first | (with_reducible first | exact HB.out | apply below_alloc | apply pw_below_drewN | apply below_drew1 | refine below_set ?_ GE104.out) | exact HB.out)⟩
                  · rw [if_neg c27] at H
                    have c27b0 : ((ji26) == a1) = false := beq_eq_false_iff_ne.mpr c27
                    have c27b1 : ((ji26) != a1) = true := bne_iff_ne.mpr c27
                    obtain rfl := Option.some.inj H
                    go_enter Try.func39, Try.ntmps39
                    go_wp2_with (first | ((with_reducible refine gate_dst (N := 3) rfl ?_); refine box_event ?hg (N := 3) ?hd (cs := #[.int .i64 a0_0, .int .i64 a0_1, .slice A0_2 l0_2.length c0_2, .slice A0_3 l0_3.length c0_3]) (t := 24) ?hr ?_; (case hd => rfl); (case hg => rfl); (case hr => first | (go_simp; done) | (go_simp; rfl)); intro gb104 hg w30 hbox hb; have n0_ := Aside0.mk (below_step (by repeat (first | (with_reducible first | exact HB.out | apply below_alloc | apply pw_below_drewN | apply below_drew1) | exact HB.out)) hb); have n1_ := Aside0.mk (hbox); have n2_ := Aside0.mk ((by rw [hg]; exact (below_size (by repeat (first | (with_reducible first | exact HB.out | apply below_alloc | apply pw_below_drewN | apply below_drew1) | exact HB.out))) : w.heap.size ≤ gb104)); have n3_ := Aside0.mk ((by rw [hg]; exact (below_size (by repeat (first | (with_reducible first | exact HB.out | apply below_alloc | apply pw_below_drewN | apply below_drew1) | exact HB.out))) : w.heap.size ≤ gb104)); clear HB; have HB := n0_; have BK104 := n1_; have GW104 := n2_; have GE104 := n3_; clear n0_ n1_ n2_ n3_; clear hb hbox hg; have hcz31_0 : w30.cell? ⟨gb104, 0, none⟩ = some (.int .i64 a0_0) := (blk_cell BK104.out 0).trans rfl; have hcz31_1 : w30.cell? ⟨gb104, 1, none⟩ = some (.int .i64 a0_1) := (blk_cell BK104.out 1).trans rfl; have hcz31_2 : w30.cell? ⟨gb104, 2, none⟩ = some (.slice A0_2 l0_2.length c0_2) := (blk_cell BK104.out 2).trans rfl; have hcz31_3 : w30.cell? ⟨gb104, 3, none⟩ = some (.slice A0_3 l0_3.length c0_3) := (blk_cell BK104.out 3).trans rfl; have hfz31_0 := blk_frozen BK104.out 0; have hfz31_1 := blk_frozen BK104.out 1; have hfz31_2 := blk_frozen BK104.out 2; have hfz31_3 := blk_frozen BK104.out 3))
                    go_ret
                    exact ⟨by first | rfl | (simp [errW_none, errW_some] <;> rfl) | (simp only [← hji24, ← hji26]; first | rfl | (simp [errW_none, errW_some] <;> rfl)) | (simp [*, errW_none, errW_some] <;> rfl), by repeat (first | (with_reducible first | exact HB.out | apply below_alloc | apply pw_below_drewN | apply below_drew1 | refine below_set ?_ GE104.out) | exact HB.out)⟩
                · rw [if_neg c23] at H
                  exact absurd H (by simp)
  · rw [if_neg c4] at H
    have c4b0 : ((Go.bits .andNot .i64 a0_0 1) == 0) = false := beq_eq_false_iff_ne.mpr c4
    have c4b1 : ((Go.bits .andNot .i64 a0_0 1) != 0) = true := bne_iff_ne.mpr c4
    obtain rfl := Option.some.inj H
    go_enter Try.func39, Try.ntmps39
    go_wp2_with (first | ((with_reducible refine gate_dst (N := 3) rfl ?_); refine box_event ?hg (N := 3) ?hd (cs := #[.int .i64 a0_0, .int .i64 a0_1, .slice A0_2 l0_2.length c0_2, .slice A0_3 l0_3.length c0_3]) (t := 24) ?hr ?_; (case hd => rfl); (case hg => rfl); (case hr => first | (go_simp; done) | (go_simp; rfl)); intro gb104 hg w32 hbox hb; have n0_ := Aside0.mk (below_step (by repeat (first | (with_reducible first | exact HB.out | apply below_alloc | apply pw_below_drewN | apply below_drew1) | exact HB.out)) hb); have n1_ := Aside0.mk (hbox); have n2_ := Aside0.mk ((by rw [hg]; exact (below_size (by repeat (first | (with_reducible first | exact HB.out | apply below_alloc | apply pw_below_drewN | apply below_drew1) | exact HB.out))) : w.heap.size ≤ gb104)); have n3_ := Aside0.mk ((by rw [hg]; exact (below_size (by repeat (first | (with_reducible first | exact HB.out | apply below_alloc | apply pw_below_drewN | apply below_drew1) | exact HB.out))) : w.heap.size ≤ gb104)); clear HB; have HB := n0_; have BK104 := n1_; have GW104 := n2_; have GE104 := n3_; clear n0_ n1_ n2_ n3_; clear hb hbox hg; have hcz33_0 : w32.cell? ⟨gb104, 0, none⟩ = some (.int .i64 a0_0) := (blk_cell BK104.out 0).trans rfl; have hcz33_1 : w32.cell? ⟨gb104, 1, none⟩ = some (.int .i64 a0_1) := (blk_cell BK104.out 1).trans rfl; have hcz33_2 : w32.cell? ⟨gb104, 2, none⟩ = some (.slice A0_2 l0_2.length c0_2) := (blk_cell BK104.out 2).trans rfl; have hcz33_3 : w32.cell? ⟨gb104, 3, none⟩ = some (.slice A0_3 l0_3.length c0_3) := (blk_cell BK104.out 3).trans rfl; have hfz33_0 := blk_frozen BK104.out 0; have hfz33_1 := blk_frozen BK104.out 1; have hfz33_2 := blk_frozen BK104.out 2; have hfz33_3 := blk_frozen BK104.out 3))
    go_ret
    exact ⟨by first | rfl | (simp [errW_none, errW_some] <;> rfl) | (simp [*, errW_none, errW_some] <;> rfl), by repeat (first | (with_reducible first | exact HB.out | apply below_alloc | apply pw_below_drewN | apply below_drew1 | refine below_set ?_ GE104.out) | exact HB.out)⟩

end Go.Proofs.Ytfhekkoibmlmpaa.Q

/- Printed by a program of ours (pp.sh), partly over contracts proved by hand. -/
namespace Go.Proofs.Ytfhekkoibmlmpaa.Q
open Go.RowKit Go.Proofs.YtfhekkoibmlmpaaW.PrintWords Go.Proofs.YtfhekkoibmlmpaaW.PrintLast Go.Proofs.YtfhekkoibmlmpaaW.PrintMore
attribute [local go_sem] max2_int min2_int max_two min_two max_three min_three max_four min_four   -- for this text's walks alone
set_option linter.unusedVariables false
set_option linter.unusedSimpArgs false

/-! ### rice_Check: function 18 -/
mutual
def rice_Check.j0 : Nat → Bool → Int → Int → List Int → List Int → Option (Int)
  | 0, _, _, _, _, _ => none
  | k + 1, x33, x106000, x106001, x106002, x106003 => if x33 = true then (some 60) else (if x106000 = 1 then (rice_Check.j1 k 30 x106000 x106001 x106002 x106003) else (rice_Check.j1 k 14 x106000 x106001 x106002 x106003))
def rice_Check.j1 : Nat → Int → Int → Int → List Int → List Int → Option (Int)
  | 0, _, _, _, _, _ => none
  | k + 1, x7, x106000, x106001, x106002, x106003 => rice_Check.l0 k x7 x106002 (x106002.length : Int) 0 x106000 x106001 x106002 x106003
def rice_Check.l0 : Nat → Int → List Int → Int → Int → Int → Int → List Int → List Int → Option (Int)
  | 0, _, _, _, _, _, _, _, _ => none
  | k + 1, x7, x38, x39, x40, x106000, x106001, x106002, x106003 => if x40 < x39 then (if 0 ≤ x40 then (if x40 < (x38.length : Int) then (if x40 < (x106003.length : Int) then (if (rd x38 x40) < 0 then (some 60) else (if (rd x38 x40) > x7 then (some 60) else (if (rd x106003 x40) < (-1) then (some 60) else (if (rd x106003 x40) > 31 then (some 60) else (if (rd x106003 x40) ≥ 0 then (if (rd x38 x40) = 0 then (rice_Check.l0 k x7 x38 x39 (wrap64 (x40 + 1)) x106000 x106001 x106002 x106003) else (some 60)) else (rice_Check.l0 k x7 x38 x39 (wrap64 (x40 + 1)) x106000 x106001 x106002 x106003)))))) else (none)) else (none)) else (none)) else (some 0)
end
def rice_Check.f (k : Nat) (a0_0 : Int) (a0_1 : Int) (l0_2 : List Int) (l0_3 : List Int) (a1 : Int) (a2 : Int) : Option (Int) := (rice_shape.f a0_0 a0_1 l0_2 l0_3 a1 a2).bind fun t106 => (if t106 = true then (if 0 ≤ a0_1 then (if (l0_2.length : Int) = (shl .i64 1 a0_1) then (rice_Check.j0 k ((l0_3.length : Int) != (shl .i64 1 a0_1)) a0_0 a0_1 l0_2 l0_3) else (rice_Check.j0 k true a0_0 a0_1 l0_2 l0_3)) else (none)) else (rice_Check.j0 k true a0_0 a0_1 l0_2 l0_3))
def rice_Check.T1 : Bool × List (List Nat × List Nat) := (true, [([], []), ([], []), ([], []), ([0, 1, 2], [0, 1, 2]), ([3], [3]), ([4, 3], [4]), ([5], [5]), ([6, 5], [5, 6]), ([7, 5], [5, 7]), ([5], [5]), ([9, 5], [5, 9]), ([10, 5], [5, 10]), ([8, 11, 5], [5, 8, 11]), ([5, 12], [5, 12]), ([13, 5], [13]), ([14], [14]), ([15, 14], [14, 15]), ([16, 14], [14, 16]), ([14], [14]), ([18, 14], [14, 18]), ([19, 14], [14, 19]), ([17, 20, 14], [14, 17, 20]), ([14, 21], [14, 21])])
def rice_Check.B1 : List Nat := [0, 0, 0, 7, 15, 31, 63, 127, 255, 63, 575, 1599, 4095, 8191, 16383, 32767, 65535, 131071, 32767, 294911, 819199, 2097151, 4194303]
theorem rice_Check.tab1 : rtab .any (opsOf Try.f18 1) = rice_Check.T1 := by kernel_rfl
theorem rice_Check.bits1 : waitsOk rice_Check.T1.2 rice_Check.B1 = true := by kernel_rfl
set_option maxHeartbeats 8000000 in
set_option maxRecDepth 100000 in
theorem rice_Check.calls (k : Nat) (a0_0 : Int) (a0_1 : Int) (A0_2 : Option Addr) (c0_2 : Nat) (l0_2 : List Int) (A0_3 : Option Addr) (c0_3 : Nat) (l0_3 : List Int) (a1 : Int) (a2 : Int) (r : Int) (w : World) (hr0_2 : Kd.C (Kd.int .i64) w A0_2 l0_2.length l0_2) (hc0_2 : l0_2.length ≤ c0_2) (hr0_3 : Kd.C (Kd.int .i64) w A0_3 l0_3.length l0_3) (hc0_3 : l0_3.length ≤ c0_3) (h : rice_Check.f k a0_0 a0_1 l0_2 l0_3 a1 a2 = some r) :
    Calls Try.prog 18 #[.agg #[.int .i64 a0_0, .int .i64 a0_1, .slice A0_2 l0_2.length c0_2, .slice A0_3 l0_3.length c0_3], .int .i64 a1, .int .i64 a2] w fun e w' => e = .returned (.int .i64 r) ∧ Below w.heap.size w w' := by
  have hu24 := Try.underlying24
  have HR0_2 := Aside0.mk hr0_2
  have HC0_2 := Aside0.mk hc0_2
  clear hr0_2 hc0_2
  have HR0_3 := Aside0.mk hr0_3
  have HC0_3 := Aside0.mk hc0_3
  clear hr0_3 hc0_3
  have HB := Aside0.mk (Below.refl w.heap.size w)
  have H : ((rice_shape.f a0_0 a0_1 l0_2 l0_3 a1 a2).bind fun t106 => (if t106 = true then (if 0 ≤ a0_1 then (if (l0_2.length : Int) = (shl .i64 1 a0_1) then (rice_Check.j0 k ((l0_3.length : Int) != (shl .i64 1 a0_1)) a0_0 a0_1 l0_2 l0_3) else (rice_Check.j0 k true a0_0 a0_1 l0_2 l0_3)) else (none)) else (rice_Check.j0 k true a0_0 a0_1 l0_2 l0_3))) = some r := h
  clear h
  have HC4 := Aside0.mk H
  clear H
  go_enter Try.func18, Try.ntmps18
  go_upto_region 1 with (first | ((with_reducible refine gate_dst (N := 3) rfl ?_); (try (refine gate_guard (by rfl) ?_; dsimp only)); refine box_event ?hg (N := 3) ?hd (cs := #[.int .i64 a0_0, .int .i64 a0_1, .slice A0_2 l0_2.length c0_2, .slice A0_3 l0_3.length c0_3]) (t := 24) ?hr ?_; (case hd => rfl); (case hg => rfl); (case hr => first | (go_simp; done) | (go_simp; rfl)); intro gb105 hg w5 hbox hb; have n0_ := Aside0.mk (below_step (by repeat (first | (with_reducible first | exact HB.out | apply below_alloc | apply pw_below_drewN | apply below_drew1) | exact HB.out)) hb); have n1_ := Aside0.mk (hbox); have n2_ := Aside0.mk ((by rw [hg]; exact (below_size (by repeat (first | (with_reducible first | exact HB.out | apply below_alloc | apply pw_below_drewN | apply below_drew1) | exact HB.out))) : w.heap.size ≤ gb105)); have n3_ := Aside0.mk ((by rw [hg]; exact (below_size (by repeat (first | (with_reducible first | exact HB.out | apply below_alloc | apply pw_below_drewN | apply below_drew1) | exact HB.out))) : w.heap.size ≤ gb105)); clear HB; have HB := n0_; have BK105 := n1_; have GW105 := n2_; have GE105 := n3_; clear n0_ n1_ n2_ n3_; clear hb hbox hg))
  (try simp only [Act.put, List.setIfInBounds_toArray, List.set_cons_zero, List.set_cons_succ])
  go_cut [33] (fun v33 wc => ∃ (kq : Nat) (x33_3 : Bool), v33 = .bool x33_3 ∧ Aside0 (rice_Check.j0 kq x33_3 a0_0 a0_1 l0_2 l0_3 = some r) ∧ Aside0 (kq ≤ k) ∧ Aside0 (wc.heap[gb105]? = some (.cells #[.int .i64 a0_0, .int .i64 a0_1, (.slice A0_2 l0_2.length c0_2), (.slice A0_3 l0_3.length c0_3)] 24 (0, 0))) ∧ Aside0 (Below w.heap.size w wc))
  case first =>
    have H := HC4.out
    clear HC4
    replace H := Option.bind_eq_some_iff.mp H
    obtain ⟨t106, A60, H⟩ := H
    replace H : (if t106 = true then (if 0 ≤ a0_1 then (if (l0_2.length : Int) = (shl .i64 1 a0_1) then (rice_Check.j0 k ((l0_3.length : Int) != (shl .i64 1 a0_1)) a0_0 a0_1 l0_2 l0_3) else (rice_Check.j0 k true a0_0 a0_1 l0_2 l0_3)) else (none)) else (rice_Check.j0 k true a0_0 a0_1 l0_2 l0_3)) = some r := H
    have A6 := Aside0.mk A60
    clear A60
    by_cases c7 : t106 = true
    · subst c7
      have H1 : (if 0 ≤ a0_1 then (if (l0_2.length : Int) = (shl .i64 1 a0_1) then (rice_Check.j0 k ((l0_3.length : Int) != (shl .i64 1 a0_1)) a0_0 a0_1 l0_2 l0_3) else (rice_Check.j0 k true a0_0 a0_1 l0_2 l0_3)) else (none)) = some r := by rw [if_pos rfl] at H; exact H
      clear H
      have H := H1
      clear H1
      by_cases c8 : 0 ≤ a0_1
      · rw [if_pos c8] at H
        have c8b0 := eq_true c8
        have c8b1 : decide (0 ≤ a0_1) = true := decide_eq_true c8
        clear c8
        obtain ⟨ji9, hji9⟩ : ∃ j_ : Int, (shl .i64 1 a0_1) = j_ := ⟨_, rfl⟩
        replace H : (if (l0_2.length : Int) = (ji9) then (rice_Check.j0 k ((l0_3.length : Int) != (ji9)) a0_0 a0_1 l0_2 l0_3) else (rice_Check.j0 k true a0_0 a0_1 l0_2 l0_3)) = some r := by first | (rw [hji9] at H; exact H) | (simp only [hji9] at H ⊢; exact H)
        (try rw [hji9] at A6)
        have hji9_ : (IntKind.i64.wrap (1 * 2 ^ min a0_1.toNat 64)) = ji9 := hji9
        have hji9z : a0_1 ≤ 64 → (IntKind.i64.wrap (1 * 2 ^ a0_1.toNat)) = ji9 := shl_small hji9
        have hji9u : (IntKind.i64.wrap (2 ^ min a0_1.toNat 64)) = ji9 := by have h_ := hji9_; rw [Int.one_mul] at h_; exact h_
        have hji9v : a0_1 ≤ 64 → (IntKind.i64.wrap (2 ^ a0_1.toNat)) = ji9 := fun hle_ => by have h_ := hji9z hle_; rw [Int.one_mul] at h_; exact h_
        have hji9y : (wrap64 (1 * 2 ^ min a0_1.toNat 64)) = ji9 := (i64_w _).symm.trans hji9_
        have hji9x : a0_1 ≤ 64 → (wrap64 (1 * 2 ^ a0_1.toNat)) = ji9 := fun h_ => (i64_w _).symm.trans (hji9z h_)
        by_cases c10 : (l0_2.length : Int) = (ji9)
        · rw [if_pos c10] at H
          have c10b0 : ((l0_2.length : Int) == (ji9)) = true := beq_iff_eq.mpr c10
          have c10b1 : ((l0_2.length : Int) != (ji9)) = false := bne_eq_false_iff_eq.mpr c10
          clear c10
          (first | rw [c10b0] | (simp only [i64_w, i32_w]; rw [c10b0]) | skip)
          have c11b0 := eq_true (of_decide_eq_true (by first | (with_reducible assumption) | assumption) : 0 ≤ a0_1)
          have H' := Aside0.mk H
          clear H
          try go_wp2
          have n0_ := Aside0.mk (blk_drew BK105.out)
          have n1_ := Aside0.mk (below_drew1 HB.out)
          clear BK105
          clear HB
          have BK105 := n0_
          have HB := n1_
          clear n0_ n1_
          refine start_ (n := 23) (S := fun w' => w'.cell? ⟨gb105, 0, none⟩ = some (.int .i64 a0_0) ∧ w'.cell? ⟨gb105, 1, none⟩ = some (.int .i64 a0_1) ∧ w'.cell? ⟨gb105, 2, none⟩ = some (.slice A0_2 l0_2.length c0_2) ∧ w'.cell? ⟨gb105, 3, none⟩ = some (.slice A0_3 l0_3.length c0_3)) (ds := []) #[false, false, false, false, false, false, false, false, false, false, false, false, false, false, false, false, false, false, false, false, false, false, false] (by kernel_rfl) rfl rfl ⟨(blk_cell BK105.out 0).trans rfl, (blk_cell BK105.out 1).trans rfl, (blk_cell BK105.out 2).trans rfl, (blk_cell BK105.out 3).trans rfl⟩ (fun hHeld => ?_); refine with_tabW rice_Check.tab1 rice_Check.bits1 (fun HT_ HW_ => ?_)
          generalize w5.drew = w12 at BK105 HB hHeld ⊢
          refine pure_ (i := 1) (N := some 12) (v := ?_) (a' := ?_) #[false, true, false, false, false, false, false, false, false, false, false, false, false, false, false, false, false, false, false, false, false, false, false] rfl rfl (any_of HT_.out (by kernel_rfl)) (fun _ _ _ h => h) (Or.inl ⟨by rfl, ?_⟩) ?_ ?_
          rotate_left
          · intro w'
            go_simp
            with_reducible rfl
          rotate_left
          · simp only [Act.put, List.setIfInBounds_toArray, List.set_cons_zero, List.set_cons_succ, i64_w, i32_w]
            rfl
          refine pure_ (i := 2) (N := some 13) (v := ?_) (a' := ?_) #[false, true, true, false, false, false, false, false, false, false, false, false, false, false, false, false, false, false, false, false, false, false, false] rfl rfl (any_of HT_.out (by kernel_rfl)) (fun _ _ _ h => h) (Or.inl ⟨by rfl, ?_⟩) ?_ ?_
          rotate_left
          · intro w'
            go_simp
            with_reducible rfl
          rotate_left
          · simp only [Act.put, List.setIfInBounds_toArray, List.set_cons_zero, List.set_cons_succ, i64_w, i32_w]
            rfl
          refine take_ (i := 0) (N := some 11) (v := ?_) (a' := ?_) #[true, true, true, false, false, false, false, false, false, false, false, false, false, false, false, false, false, false, false, false, false, false, false] rfl rfl (take_ofW HT_.out HW_.out (by kernel_rfl)) (fun _ _ _ h => h) (Or.inl ⟨by rfl, ?_⟩) hHeld ?_ ?_
          rotate_left
          · rintro w' ⟨s0, s1, s2, s3⟩
            go_simp
            with_reducible rfl
          rotate_left
          · simp only [Act.put, List.setIfInBounds_toArray, List.set_cons_zero, List.set_cons_succ, i64_w, i32_w]
            rfl
          refine one_ (i := 3) (N := some 14) #[true, true, true, true, false, false, false, false, false, false, false, false, false, false, false, false, false, false, false, false, false, false, false] rfl rfl (one_of HT_.out (by kernel_rfl)) (by decide) (fun K hK => ?_)
          refine goes_ Try.func39 (by kernel_rfl) rfl #[.agg #[.int .i64 a0_0, .int .i64 a0_1, .slice A0_2 l0_2.length c0_2, .slice A0_3 l0_3.length c0_3], .int .i64 a1, .int .i64 a2] (by rfl) rfl rfl (by (try simp only [List.map_toArray, List.map_cons, List.map_nil]); first | done | rfl | (simp only [List.length_drop, List.length_take]; rfl)) ?_
          with_reducible refine (rice_shape.calls a0_0 a0_1 _ _ l0_2 _ _ l0_3 a1 a2 true _ ?side1 ?side2 ?side3 ?side4 A6.out).mono ?_
          (case side1 => repeat (first | exact (Kd.C_below HR0_2.out HB.out) | (with_reducible refine Kd.C_alloc ?_ _) | (with_reducible refine Kd.C_drewN ?_ _) | (with_reducible refine Kd.C_drew ?_)))
          (case side2 => exact HC0_2.out)
          (case side3 => repeat (first | exact (Kd.C_below HR0_3.out HB.out) | (with_reducible refine Kd.C_alloc ?_ _) | (with_reducible refine Kd.C_drewN ?_ _) | (with_reducible refine Kd.C_drew ?_)))
          (case side4 => exact HC0_3.out)
          rintro e w13 ⟨rfl, hb⟩
          refine ⟨_, rfl, ?_⟩
          have n0_ := Aside0.mk (blk_below (g := gb105) (o := .cells #[.int .i64 a0_0, .int .i64 a0_1, .slice A0_2 l0_2.length c0_2, .slice A0_3 l0_3.length c0_3] 24 (0, 0)) (by (with_reducible repeat (first | refine blk_drewN ?_ _ | refine blk_drew ?_ | refine blk_alloc ?_ _)); exact BK105.out) hb)
          have n1_ := Aside0.mk (below_step (by repeat (first | (with_reducible first | exact HB.out | apply below_alloc | apply pw_below_drewN | apply below_drew1 | refine below_set ?_ GE105.out) | exact HB.out)) hb)
          clear BK105
          clear HB
          have BK105 := n0_
          have HB := n1_
          clear n0_ n1_
          (try clear hb)
          (try clear hb2)
          (try clear hk)
          (try clear hi)
          refine hK.out _ _ ⟨(blk_cell BK105.out 0).trans rfl, (blk_cell BK105.out 1).trans rfl, (blk_cell BK105.out 2).trans rfl, (blk_cell BK105.out 3).trans rfl⟩ (fun hHeld => ?_)
          clear hK K
          refine norm_ (a' := ?_) ?_ ?_
          rotate_left
          · show Act.put _ (some 14) _ = _
            simp only [Act.put, List.setIfInBounds_toArray, List.set_cons_zero, List.set_cons_succ, i64_w, i32_w]
            rfl
          refine pure_ (i := 4) (N := some 15) (v := ?_) (a' := ?_) #[true, true, true, true, true, false, false, false, false, false, false, false, false, false, false, false, false, false, false, false, false, false, false] rfl rfl (any_of HT_.out (by kernel_rfl)) (fun _ _ _ h => h) (Or.inl ⟨by rfl, ?_⟩) ?_ ?_
          rotate_left
          · intro w'
            go_simp
            with_reducible rfl
          rotate_left
          · simp only [Act.put, List.setIfInBounds_toArray, List.set_cons_zero, List.set_cons_succ, i64_w, i32_w]
            rfl
          refine pure_ (i := 5) (N := some 16) (v := ?_) (a' := ?_) #[true, true, true, true, true, true, false, false, false, false, false, false, false, false, false, false, false, false, false, false, false, false, false] rfl rfl (any_of HT_.out (by kernel_rfl)) (fun _ _ _ h => h) (Or.inl ⟨by rfl, ?_⟩) ?_ ?_
          rotate_left
          · intro w'
            go_simp
            with_reducible rfl
          rotate_left
          · simp only [Act.put, List.setIfInBounds_toArray, List.set_cons_zero, List.set_cons_succ, i64_w, i32_w]
            rfl
          refine pure_ (i := 6) (N := some 17) (v := ?_) (a' := ?_) #[true, true, true, true, true, true, true, false, false, false, false, false, false, false, false, false, false, false, false, false, false, false, false] rfl rfl (any_of HT_.out (by kernel_rfl)) (fun _ _ _ h => h) (Or.inl ⟨by rfl, ?_⟩) ?_ ?_
          rotate_left
          · intro w'
            go_simp
            with_reducible rfl
          rotate_left
          · simp only [Act.put, List.setIfInBounds_toArray, List.set_cons_zero, List.set_cons_succ, i64_w, i32_w]
            rfl
          refine pure_ (i := 9) (N := some 20) (v := ?_) (a' := ?_) #[true, true, true, true, true, true, true, false, false, true, false, false, false, false, false, false, false, false, false, false, false, false, false] rfl rfl (any_of HT_.out (by kernel_rfl)) (fun _ _ _ h => h) (Or.inl ⟨by rfl, ?_⟩) ?_ ?_
          rotate_left
          · intro w'
            go_simp
            with_reducible rfl
          rotate_left
          · simp only [Act.put, List.setIfInBounds_toArray, List.set_cons_zero, List.set_cons_succ, i64_w, i32_w]
            rfl
          refine take_ (i := 7) (N := some 18) (v := ?_) (a' := ?_) #[true, true, true, true, true, true, true, true, false, true, false, false, false, false, false, false, false, false, false, false, false, false, false] rfl rfl (take_ofW HT_.out HW_.out (by kernel_rfl)) (fun _ _ _ h => h) (Or.inl ⟨by rfl, ?_⟩) hHeld ?_ ?_
          rotate_left
          · rintro w' ⟨s0, s1, s2, s3⟩
            go_simp
            with_reducible rfl
          rotate_left
          · simp only [Act.put, List.setIfInBounds_toArray, List.set_cons_zero, List.set_cons_succ, i64_w, i32_w]
            rfl
          refine pure_ (i := 8) (N := some 19) (v := ?_) (a' := ?_) #[true, true, true, true, true, true, true, true, true, true, false, false, false, false, false, false, false, false, false, false, false, false, false] rfl rfl (any_of HT_.out (by kernel_rfl)) (fun _ _ _ h => h) (Or.inl ⟨by rfl, ?_⟩) ?_ ?_
          rotate_left
          · intro w'
            go_simp
            with_reducible rfl
          rotate_left
          · simp only [Act.put, List.setIfInBounds_toArray, List.set_cons_zero, List.set_cons_succ, i64_w, i32_w]
            rfl
          refine take_ (i := 10) (N := some 21) (v := ?_) (a' := ?_) #[true, true, true, true, true, true, true, true, true, true, true, false, false, false, false, false, false, false, false, false, false, false, false] rfl rfl (take_ofW HT_.out HW_.out (by kernel_rfl)) (fun _ _ _ h => h) (Or.inl ⟨by rfl, ?_⟩) hHeld ?_ ?_
          rotate_left
          · rintro w' ⟨s0, s1, s2, s3⟩
            go_simp
            with_reducible rfl
          rotate_left
          · simp only [Act.put, List.setIfInBounds_toArray, List.set_cons_zero, List.set_cons_succ, i64_w, i32_w]
            rfl
          refine pure_ (i := 11) (N := some 22) (v := ?_) (a' := ?_) #[true, true, true, true, true, true, true, true, true, true, true, true, false, false, false, false, false, false, false, false, false, false, false] rfl rfl (any_of HT_.out (by kernel_rfl)) (fun _ _ _ h => h) (Or.inl ⟨by rfl, ?_⟩) ?_ ?_
          rotate_left
          · intro w'
            go_simp
            with_reducible rfl
          rotate_left
          · simp only [Act.put, List.setIfInBounds_toArray, List.set_cons_zero, List.set_cons_succ, i64_w, i32_w]
            rfl
          refine pure_ (i := 12) (N := some 23) (v := ?_) (a' := ?_) #[true, true, true, true, true, true, true, true, true, true, true, true, true, false, false, false, false, false, false, false, false, false, false] rfl rfl (any_of HT_.out (by kernel_rfl)) (fun _ _ _ h => h) (Or.inl ⟨by rfl, ?_⟩) ?_ ?_
          rotate_left
          · intro w'
            go_simp
            with_reducible rfl
          rotate_left
          · simp only [Act.put, List.setIfInBounds_toArray, List.set_cons_zero, List.set_cons_succ, i64_w, i32_w]
            rfl
          refine pure_ (i := 13) (N := some 24) (v := ?_) (a' := ?_) #[true, true, true, true, true, true, true, true, true, true, true, true, true, true, false, false, false, false, false, false, false, false, false] rfl rfl (any_of HT_.out (by kernel_rfl)) (fun _ _ _ h => h) (Or.inl ⟨by rfl, ?_⟩) ?_ ?_
          rotate_left
          · intro w'
            go_simp
            with_reducible rfl
          rotate_left
          · simp only [Act.put, List.setIfInBounds_toArray, List.set_cons_zero, List.set_cons_succ, i64_w, i32_w]
            rfl
          refine pure_ (i := 14) (N := some 25) (v := ?_) (a' := ?_) #[true, true, true, true, true, true, true, true, true, true, true, true, true, true, true, false, false, false, false, false, false, false, false] rfl rfl (any_of HT_.out (by kernel_rfl)) (fun _ _ _ h => h) (Or.inl ⟨by rfl, ?_⟩) ?_ ?_
          rotate_left
          · intro w'
            go_simp
            with_reducible rfl
          rotate_left
          · simp only [Act.put, List.setIfInBounds_toArray, List.set_cons_zero, List.set_cons_succ, i64_w, i32_w]
            rfl
          refine pure_ (i := 15) (N := some 26) (v := ?_) (a' := ?_) #[true, true, true, true, true, true, true, true, true, true, true, true, true, true, true, true, false, false, false, false, false, false, false] rfl rfl (any_of HT_.out (by kernel_rfl)) (fun _ _ _ h => h) (Or.inl ⟨by rfl, ?_⟩) ?_ ?_
          rotate_left
          · intro w'
            go_simp
            with_reducible rfl
          rotate_left
          · simp only [Act.put, List.setIfInBounds_toArray, List.set_cons_zero, List.set_cons_succ, i64_w, i32_w]
            rfl
          refine pure_ (i := 18) (N := some 29) (v := ?_) (a' := ?_) #[true, true, true, true, true, true, true, true, true, true, true, true, true, true, true, true, false, false, true, false, false, false, false] rfl rfl (any_of HT_.out (by kernel_rfl)) (fun _ _ _ h => h) (Or.inl ⟨by rfl, ?_⟩) ?_ ?_
          rotate_left
          · intro w'
            go_simp
            with_reducible rfl
          rotate_left
          · simp only [Act.put, List.setIfInBounds_toArray, List.set_cons_zero, List.set_cons_succ, i64_w, i32_w]
            rfl
          refine take_ (i := 16) (N := some 27) (v := ?_) (a' := ?_) #[true, true, true, true, true, true, true, true, true, true, true, true, true, true, true, true, true, false, true, false, false, false, false] rfl rfl (take_ofW HT_.out HW_.out (by kernel_rfl)) (fun _ _ _ h => h) (Or.inl ⟨by rfl, ?_⟩) hHeld ?_ ?_
          rotate_left
          · rintro w' ⟨s0, s1, s2, s3⟩
            go_simp
            with_reducible rfl
          rotate_left
          · simp only [Act.put, List.setIfInBounds_toArray, List.set_cons_zero, List.set_cons_succ, i64_w, i32_w]
            rfl
          refine pure_ (i := 17) (N := some 28) (v := ?_) (a' := ?_) #[true, true, true, true, true, true, true, true, true, true, true, true, true, true, true, true, true, true, true, false, false, false, false] rfl rfl (any_of HT_.out (by kernel_rfl)) (fun _ _ _ h => h) (Or.inl ⟨by rfl, ?_⟩) ?_ ?_
          rotate_left
          · intro w'
            go_simp
            with_reducible rfl
          rotate_left
          · simp only [Act.put, List.setIfInBounds_toArray, List.set_cons_zero, List.set_cons_succ, i64_w, i32_w]
            rfl
          refine take_ (i := 19) (N := some 30) (v := ?_) (a' := ?_) #[true, true, true, true, true, true, true, true, true, true, true, true, true, true, true, true, true, true, true, true, false, false, false] rfl rfl (take_ofW HT_.out HW_.out (by kernel_rfl)) (fun _ _ _ h => h) (Or.inl ⟨by rfl, ?_⟩) hHeld ?_ ?_
          rotate_left
          · rintro w' ⟨s0, s1, s2, s3⟩
            go_simp
            with_reducible rfl
          rotate_left
          · simp only [Act.put, List.setIfInBounds_toArray, List.set_cons_zero, List.set_cons_succ, i64_w, i32_w]
            rfl
          refine pure_ (i := 20) (N := some 31) (v := ?_) (a' := ?_) #[true, true, true, true, true, true, true, true, true, true, true, true, true, true, true, true, true, true, true, true, true, false, false] rfl rfl (any_of HT_.out (by kernel_rfl)) (fun _ _ _ h => h) (Or.inl ⟨by rfl, ?_⟩) ?_ ?_
          rotate_left
          · intro w'
            go_simp
            with_reducible rfl
          rotate_left
          · simp only [Act.put, List.setIfInBounds_toArray, List.set_cons_zero, List.set_cons_succ, i64_w, i32_w]
            rfl
          refine pure_ (i := 21) (N := some 32) (v := ?_) (a' := ?_) #[true, true, true, true, true, true, true, true, true, true, true, true, true, true, true, true, true, true, true, true, true, true, false] rfl rfl (any_of HT_.out (by kernel_rfl)) (fun _ _ _ h => h) (Or.inl ⟨by rfl, ?_⟩) ?_ ?_
          rotate_left
          · intro w'
            go_simp
            with_reducible rfl
          rotate_left
          · simp only [Act.put, List.setIfInBounds_toArray, List.set_cons_zero, List.set_cons_succ, i64_w, i32_w]
            rfl
          refine pure_ (i := 22) (N := some 33) (v := ?_) (a' := ?_) #[true, true, true, true, true, true, true, true, true, true, true, true, true, true, true, true, true, true, true, true, true, true, true] rfl rfl (any_of HT_.out (by kernel_rfl)) (fun _ _ _ h => h) (Or.inl ⟨by rfl, ?_⟩) ?_ ?_
          rotate_left
          · intro w'
            go_simp
            with_reducible rfl
          rotate_left
          · simp only [Act.put, List.setIfInBounds_toArray, List.set_cons_zero, List.set_cons_succ, i64_w, i32_w]
            rfl
          refine done_ (done_of HT_.out (by kernel_rfl)) ?_
          try go_wp2
          go_meet
          case rel => exact ⟨_, (((l0_3.length : Int) != (ji9))), (by first | rfl | (simp; done) | (simp only [← hji9] <;> (first | rfl | simp)) | (simp [*]; done)), H', ⟨by first | omega | exact Nat.le_refl _⟩, ⟨by (with_reducible repeat (first | refine blk_drewN ?_ _ | refine blk_drew ?_ | refine blk_alloc ?_ _)); exact BK105.out⟩, ⟨by repeat (first | (with_reducible first | exact HB.out | apply below_alloc | apply pw_below_drewN | apply below_drew1 | refine below_set ?_ GE105.out) | exact HB.out)⟩⟩
        · rw [if_neg c10] at H
          have c10b0 : ((l0_2.length : Int) == (ji9)) = false := beq_eq_false_iff_ne.mpr c10
          have c10b1 : ((l0_2.length : Int) != (ji9)) = true := bne_iff_ne.mpr c10
          (first | rw [c10b0] | (simp only [i64_w, i32_w]; rw [c10b0]) | skip)
          have H' := Aside0.mk H
          clear H
          try go_wp2
          have n0_ := Aside0.mk (blk_drew BK105.out)
          have n1_ := Aside0.mk (below_drew1 HB.out)
          clear BK105
          clear HB
          have BK105 := n0_
          have HB := n1_
          clear n0_ n1_
          refine start_ (n := 23) (S := fun w' => w'.cell? ⟨gb105, 0, none⟩ = some (.int .i64 a0_0) ∧ w'.cell? ⟨gb105, 1, none⟩ = some (.int .i64 a0_1) ∧ w'.cell? ⟨gb105, 2, none⟩ = some (.slice A0_2 l0_2.length c0_2) ∧ w'.cell? ⟨gb105, 3, none⟩ = some (.slice A0_3 l0_3.length c0_3)) (ds := []) #[false, false, false, false, false, false, false, false, false, false, false, false, false, false, false, false, false, false, false, false, false, false, false] (by kernel_rfl) rfl rfl ⟨(blk_cell BK105.out 0).trans rfl, (blk_cell BK105.out 1).trans rfl, (blk_cell BK105.out 2).trans rfl, (blk_cell BK105.out 3).trans rfl⟩ (fun hHeld => ?_); refine with_tabW rice_Check.tab1 rice_Check.bits1 (fun HT_ HW_ => ?_)
          generalize w5.drew = w14 at BK105 HB hHeld ⊢
          refine pure_ (i := 1) (N := some 12) (v := ?_) (a' := ?_) #[false, true, false, false, false, false, false, false, false, false, false, false, false, false, false, false, false, false, false, false, false, false, false] rfl rfl (any_of HT_.out (by kernel_rfl)) (fun _ _ _ h => h) (Or.inl ⟨by rfl, ?_⟩) ?_ ?_
          rotate_left
          · intro w'
            go_simp
            with_reducible rfl
          rotate_left
          · simp only [Act.put, List.setIfInBounds_toArray, List.set_cons_zero, List.set_cons_succ, i64_w, i32_w]
            rfl
          refine pure_ (i := 2) (N := some 13) (v := ?_) (a' := ?_) #[false, true, true, false, false, false, false, false, false, false, false, false, false, false, false, false, false, false, false, false, false, false, false] rfl rfl (any_of HT_.out (by kernel_rfl)) (fun _ _ _ h => h) (Or.inl ⟨by rfl, ?_⟩) ?_ ?_
          rotate_left
          · intro w'
            go_simp
            with_reducible rfl
          rotate_left
          · simp only [Act.put, List.setIfInBounds_toArray, List.set_cons_zero, List.set_cons_succ, i64_w, i32_w]
            rfl
          refine take_ (i := 0) (N := some 11) (v := ?_) (a' := ?_) #[true, true, true, false, false, false, false, false, false, false, false, false, false, false, false, false, false, false, false, false, false, false, false] rfl rfl (take_ofW HT_.out HW_.out (by kernel_rfl)) (fun _ _ _ h => h) (Or.inl ⟨by rfl, ?_⟩) hHeld ?_ ?_
          rotate_left
          · rintro w' ⟨s0, s1, s2, s3⟩
            go_simp
            with_reducible rfl
          rotate_left
          · simp only [Act.put, List.setIfInBounds_toArray, List.set_cons_zero, List.set_cons_succ, i64_w, i32_w]
            rfl
          refine one_ (i := 3) (N := some 14) #[true, true, true, true, false, false, false, false, false, false, false, false, false, false, false, false, false, false, false, false, false, false, false] rfl rfl (one_of HT_.out (by kernel_rfl)) (by decide) (fun K hK => ?_)
          refine goes_ Try.func39 (by kernel_rfl) rfl #[.agg #[.int .i64 a0_0, .int .i64 a0_1, .slice A0_2 l0_2.length c0_2, .slice A0_3 l0_3.length c0_3], .int .i64 a1, .int .i64 a2] (by rfl) rfl rfl (by (try simp only [List.map_toArray, List.map_cons, List.map_nil]); first | done | rfl | (simp only [List.length_drop, List.length_take]; rfl)) ?_
          with_reducible refine (rice_shape.calls a0_0 a0_1 _ _ l0_2 _ _ l0_3 a1 a2 true _ ?side1 ?side2 ?side3 ?side4 A6.out).mono ?_
          (case side1 => repeat (first | exact (Kd.C_below HR0_2.out HB.out) | (with_reducible refine Kd.C_alloc ?_ _) | (with_reducible refine Kd.C_drewN ?_ _) | (with_reducible refine Kd.C_drew ?_)))
          (case side2 => exact HC0_2.out)
          (case side3 => repeat (first | exact (Kd.C_below HR0_3.out HB.out) | (with_reducible refine Kd.C_alloc ?_ _) | (with_reducible refine Kd.C_drewN ?_ _) | (with_reducible refine Kd.C_drew ?_)))
          (case side4 => exact HC0_3.out)
          rintro e w15 ⟨rfl, hb⟩
          refine ⟨_, rfl, ?_⟩
          have n0_ := Aside0.mk (blk_below (g := gb105) (o := .cells #[.int .i64 a0_0, .int .i64 a0_1, .slice A0_2 l0_2.length c0_2, .slice A0_3 l0_3.length c0_3] 24 (0, 0)) (by (with_reducible repeat (first | refine blk_drewN ?_ _ | refine blk_drew ?_ | refine blk_alloc ?_ _)); exact BK105.out) hb)
          have n1_ := Aside0.mk (below_step (by repeat (first | (with_reducible first | exact HB.out | apply below_alloc | apply pw_below_drewN | apply below_drew1 | refine below_set ?_ GE105.out) | exact HB.out)) hb)
          clear BK105
          clear HB
          have BK105 := n0_
          have HB := n1_
          clear n0_ n1_
          (try clear hb)
          (try clear hb2)
          (try clear hk)
          (try clear hi)
          refine hK.out _ _ ⟨(blk_cell BK105.out 0).trans rfl, (blk_cell BK105.out 1).trans rfl, (blk_cell BK105.out 2).trans rfl, (blk_cell BK105.out 3).trans rfl⟩ (fun hHeld => ?_)
          clear hK K
          refine norm_ (a' := ?_) ?_ ?_
          rotate_left
          · show Act.put _ (some 14) _ = _
            simp only [Act.put, List.setIfInBounds_toArray, List.set_cons_zero, List.set_cons_succ, i64_w, i32_w]
            rfl
          refine pure_ (i := 4) (N := some 15) (v := ?_) (a' := ?_) #[true, true, true, true, true, false, false, false, false, false, false, false, false, false, false, false, false, false, false, false, false, false, false] rfl rfl (any_of HT_.out (by kernel_rfl)) (fun _ _ _ h => h) (Or.inl ⟨by rfl, ?_⟩) ?_ ?_
          rotate_left
          · intro w'
            go_simp
            with_reducible rfl
          rotate_left
          · simp only [Act.put, List.setIfInBounds_toArray, List.set_cons_zero, List.set_cons_succ, i64_w, i32_w]
            rfl
          refine pure_ (i := 5) (N := some 16) (v := ?_) (a' := ?_) #[true, true, true, true, true, true, false, false, false, false, false, false, false, false, false, false, false, false, false, false, false, false, false] rfl rfl (any_of HT_.out (by kernel_rfl)) (fun _ _ _ h => h) (Or.inl ⟨by rfl, ?_⟩) ?_ ?_
          rotate_left
          · intro w'
            go_simp
            with_reducible rfl
          rotate_left
          · simp only [Act.put, List.setIfInBounds_toArray, List.set_cons_zero, List.set_cons_succ, i64_w, i32_w]
            rfl
          refine pure_ (i := 6) (N := some 17) (v := ?_) (a' := ?_) #[true, true, true, true, true, true, true, false, false, false, false, false, false, false, false, false, false, false, false, false, false, false, false] rfl rfl (any_of HT_.out (by kernel_rfl)) (fun _ _ _ h => h) (Or.inl ⟨by rfl, ?_⟩) ?_ ?_
          rotate_left
          · intro w'
            go_simp
            with_reducible rfl
          rotate_left
          · simp only [Act.put, List.setIfInBounds_toArray, List.set_cons_zero, List.set_cons_succ, i64_w, i32_w]
            rfl
          refine pure_ (i := 9) (N := some 20) (v := ?_) (a' := ?_) #[true, true, true, true, true, true, true, false, false, true, false, false, false, false, false, false, false, false, false, false, false, false, false] rfl rfl (any_of HT_.out (by kernel_rfl)) (fun _ _ _ h => h) (Or.inl ⟨by rfl, ?_⟩) ?_ ?_
          rotate_left
          · intro w'
            go_simp
            with_reducible rfl
          rotate_left
          · simp only [Act.put, List.setIfInBounds_toArray, List.set_cons_zero, List.set_cons_succ, i64_w, i32_w]
            rfl
          refine take_ (i := 7) (N := some 18) (v := ?_) (a' := ?_) #[true, true, true, true, true, true, true, true, false, true, false, false, false, false, false, false, false, false, false, false, false, false, false] rfl rfl (take_ofW HT_.out HW_.out (by kernel_rfl)) (fun _ _ _ h => h) (Or.inl ⟨by rfl, ?_⟩) hHeld ?_ ?_
          rotate_left
          · rintro w' ⟨s0, s1, s2, s3⟩
            go_simp
            with_reducible rfl
          rotate_left
          · simp only [Act.put, List.setIfInBounds_toArray, List.set_cons_zero, List.set_cons_succ, i64_w, i32_w]
            rfl
          refine pure_ (i := 8) (N := some 19) (v := ?_) (a' := ?_) #[true, true, true, true, true, true, true, true, true, true, false, false, false, false, false, false, false, false, false, false, false, false, false] rfl rfl (any_of HT_.out (by kernel_rfl)) (fun _ _ _ h => h) (Or.inl ⟨by rfl, ?_⟩) ?_ ?_
          rotate_left
          · intro w'
            go_simp
            with_reducible rfl
          rotate_left
          · simp only [Act.put, List.setIfInBounds_toArray, List.set_cons_zero, List.set_cons_succ, i64_w, i32_w]
            rfl
          refine take_ (i := 10) (N := some 21) (v := ?_) (a' := ?_) #[true, true, true, true, true, true, true, true, true, true, true, false, false, false, false, false, false, false, false, false, false, false, false] rfl rfl (take_ofW HT_.out HW_.out (by kernel_rfl)) (fun _ _ _ h => h) (Or.inl ⟨by rfl, ?_⟩) hHeld ?_ ?_
          rotate_left
          · rintro w' ⟨s0, s1, s2, s3⟩
            go_simp
            with_reducible rfl
          rotate_left
          · simp only [Act.put, List.setIfInBounds_toArray, List.set_cons_zero, List.set_cons_succ, i64_w, i32_w]
            rfl
          refine pure_ (i := 11) (N := some 22) (v := ?_) (a' := ?_) #[true, true, true, true, true, true, true, true, true, true, true, true, false, false, false, false, false, false, false, false, false, false, false] rfl rfl (any_of HT_.out (by kernel_rfl)) (fun _ _ _ h => h) (Or.inl ⟨by rfl, ?_⟩) ?_ ?_
          rotate_left
          · intro w'
            go_simp
            with_reducible rfl
          rotate_left
          · simp only [Act.put, List.setIfInBounds_toArray, List.set_cons_zero, List.set_cons_succ, i64_w, i32_w]
            rfl
          refine pure_ (i := 12) (N := some 23) (v := ?_) (a' := ?_) #[true, true, true, true, true, true, true, true, true, true, true, true, true, false, false, false, false, false, false, false, false, false, false] rfl rfl (any_of HT_.out (by kernel_rfl)) (fun _ _ _ h => h) (Or.inl ⟨by rfl, ?_⟩) ?_ ?_
          rotate_left
          · intro w'
            go_simp
            with_reducible rfl
          rotate_left
          · simp only [Act.put, List.setIfInBounds_toArray, List.set_cons_zero, List.set_cons_succ, i64_w, i32_w]
            rfl
          refine pure_ (i := 13) (N := some 24) (v := ?_) (a' := ?_) #[true, true, true, true, true, true, true, true, true, true, true, true, true, true, false, false, false, false, false, false, false, false, false] rfl rfl (any_of HT_.out (by kernel_rfl)) (fun _ _ _ h => h) (Or.inl ⟨by rfl, ?_⟩) ?_ ?_
          rotate_left
          · intro w'
            go_simp
            with_reducible rfl
          rotate_left
          · simp only [Act.put, List.setIfInBounds_toArray, List.set_cons_zero, List.set_cons_succ, i64_w, i32_w]
            rfl
          refine pure_ (i := 14) (N := some 25) (v := ?_) (a' := ?_) #[true, true, true, true, true, true, true, true, true, true, true, true, true, true, true, false, false, false, false, false, false, false, false] rfl rfl (any_of HT_.out (by kernel_rfl)) (fun _ _ _ h => h) (Or.inl ⟨by rfl, ?_⟩) ?_ ?_
          rotate_left
          · intro w'
            go_simp
            with_reducible rfl
          rotate_left
          · simp only [Act.put, List.setIfInBounds_toArray, List.set_cons_zero, List.set_cons_succ, i64_w, i32_w]
            rfl
          refine pure_ (i := 15) (N := some 26) (v := undef) (a' := ?_) #[true, true, true, true, true, true, true, true, true, true, true, true, true, true, true, true, false, false, false, false, false, false, false] rfl rfl (any_of HT_.out (by kernel_rfl)) (fun _ _ _ h => h) (Or.inr ⟨by rfl, rfl⟩) ?_ ?_
          rotate_left
          · simp only [Act.put, List.setIfInBounds_toArray, List.set_cons_zero, List.set_cons_succ, i64_w, i32_w]
            rfl
          refine pure_ (i := 16) (N := some 27) (v := undef) (a' := ?_) #[true, true, true, true, true, true, true, true, true, true, true, true, true, true, true, true, true, false, false, false, false, false, false] rfl rfl (any_of HT_.out (by kernel_rfl)) (fun _ _ _ h => h) (Or.inr ⟨by rfl, rfl⟩) ?_ ?_
          rotate_left
          · simp only [Act.put, List.setIfInBounds_toArray, List.set_cons_zero, List.set_cons_succ, i64_w, i32_w]
            rfl
          refine pure_ (i := 17) (N := some 28) (v := undef) (a' := ?_) #[true, true, true, true, true, true, true, true, true, true, true, true, true, true, true, true, true, true, false, false, false, false, false] rfl rfl (any_of HT_.out (by kernel_rfl)) (fun _ _ _ h => h) (Or.inr ⟨by rfl, rfl⟩) ?_ ?_
          rotate_left
          · simp only [Act.put, List.setIfInBounds_toArray, List.set_cons_zero, List.set_cons_succ, i64_w, i32_w]
            rfl
          refine pure_ (i := 18) (N := some 29) (v := undef) (a' := ?_) #[true, true, true, true, true, true, true, true, true, true, true, true, true, true, true, true, true, true, true, false, false, false, false] rfl rfl (any_of HT_.out (by kernel_rfl)) (fun _ _ _ h => h) (Or.inr ⟨by rfl, rfl⟩) ?_ ?_
          rotate_left
          · simp only [Act.put, List.setIfInBounds_toArray, List.set_cons_zero, List.set_cons_succ, i64_w, i32_w]
            rfl
          refine pure_ (i := 19) (N := some 30) (v := undef) (a' := ?_) #[true, true, true, true, true, true, true, true, true, true, true, true, true, true, true, true, true, true, true, true, false, false, false] rfl rfl (any_of HT_.out (by kernel_rfl)) (fun _ _ _ h => h) (Or.inr ⟨by rfl, rfl⟩) ?_ ?_
          rotate_left
          · simp only [Act.put, List.setIfInBounds_toArray, List.set_cons_zero, List.set_cons_succ, i64_w, i32_w]
            rfl
          refine pure_ (i := 20) (N := some 31) (v := undef) (a' := ?_) #[true, true, true, true, true, true, true, true, true, true, true, true, true, true, true, true, true, true, true, true, true, false, false] rfl rfl (any_of HT_.out (by kernel_rfl)) (fun _ _ _ h => h) (Or.inr ⟨by rfl, rfl⟩) ?_ ?_
          rotate_left
          · simp only [Act.put, List.setIfInBounds_toArray, List.set_cons_zero, List.set_cons_succ, i64_w, i32_w]
            rfl
          refine pure_ (i := 21) (N := some 32) (v := undef) (a' := ?_) #[true, true, true, true, true, true, true, true, true, true, true, true, true, true, true, true, true, true, true, true, true, true, false] rfl rfl (any_of HT_.out (by kernel_rfl)) (fun _ _ _ h => h) (Or.inr ⟨by rfl, rfl⟩) ?_ ?_
          rotate_left
          · simp only [Act.put, List.setIfInBounds_toArray, List.set_cons_zero, List.set_cons_succ, i64_w, i32_w]
            rfl
          refine pure_ (i := 22) (N := some 33) (v := ?_) (a' := ?_) #[true, true, true, true, true, true, true, true, true, true, true, true, true, true, true, true, true, true, true, true, true, true, true] rfl rfl (any_of HT_.out (by kernel_rfl)) (fun _ _ _ h => h) (Or.inl ⟨by rfl, ?_⟩) ?_ ?_
          rotate_left
          · intro w'
            go_simp
            with_reducible rfl
          rotate_left
          · simp only [Act.put, List.setIfInBounds_toArray, List.set_cons_zero, List.set_cons_succ, i64_w, i32_w]
            rfl
          refine done_ (done_of HT_.out (by kernel_rfl)) ?_
          try go_wp2
          go_meet
          case rel => exact ⟨_, (true), (by first | rfl | (simp; done) | (simp [*]; done)), H', ⟨by first | omega | exact Nat.le_refl _⟩, ⟨by (with_reducible repeat (first | refine blk_drewN ?_ _ | refine blk_drew ?_ | refine blk_alloc ?_ _)); exact BK105.out⟩, ⟨by repeat (first | (with_reducible first | exact HB.out | apply below_alloc | apply pw_below_drewN | apply below_drew1 | refine below_set ?_ GE105.out) | exact HB.out)⟩⟩
      · rw [if_neg c8] at H
        exact absurd H (by simp)
    · replace c7 := Bool.eq_false_iff.mpr c7
      subst c7
      have H1 : (rice_Check.j0 k true a0_0 a0_1 l0_2 l0_3) = some r := by rw [if_neg (show ¬ (false = true) by decide)] at H; exact H
      clear H
      have H := H1
      clear H1
      have H' := Aside0.mk H
      clear H
      try go_wp2
      have n0_ := Aside0.mk (blk_drew BK105.out)
      have n1_ := Aside0.mk (below_drew1 HB.out)
      clear BK105
      clear HB
      have BK105 := n0_
      have HB := n1_
      clear n0_ n1_
      refine start_ (n := 23) (S := fun w' => w'.cell? ⟨gb105, 0, none⟩ = some (.int .i64 a0_0) ∧ w'.cell? ⟨gb105, 1, none⟩ = some (.int .i64 a0_1) ∧ w'.cell? ⟨gb105, 2, none⟩ = some (.slice A0_2 l0_2.length c0_2) ∧ w'.cell? ⟨gb105, 3, none⟩ = some (.slice A0_3 l0_3.length c0_3)) (ds := []) #[false, false, false, false, false, false, false, false, false, false, false, false, false, false, false, false, false, false, false, false, false, false, false] (by kernel_rfl) rfl rfl ⟨(blk_cell BK105.out 0).trans rfl, (blk_cell BK105.out 1).trans rfl, (blk_cell BK105.out 2).trans rfl, (blk_cell BK105.out 3).trans rfl⟩ (fun hHeld => ?_); refine with_tabW rice_Check.tab1 rice_Check.bits1 (fun HT_ HW_ => ?_)
      generalize w5.drew = w16 at BK105 HB hHeld ⊢
      refine pure_ (i := 1) (N := some 12) (v := ?_) (a' := ?_) #[false, true, false, false, false, false, false, false, false, false, false, false, false, false, false, false, false, false, false, false, false, false, false] rfl rfl (any_of HT_.out (by kernel_rfl)) (fun _ _ _ h => h) (Or.inl ⟨by rfl, ?_⟩) ?_ ?_
      rotate_left
      · intro w'
        go_simp
        with_reducible rfl
      rotate_left
      · simp only [Act.put, List.setIfInBounds_toArray, List.set_cons_zero, List.set_cons_succ, i64_w, i32_w]
        rfl
      refine pure_ (i := 2) (N := some 13) (v := ?_) (a' := ?_) #[false, true, true, false, false, false, false, false, false, false, false, false, false, false, false, false, false, false, false, false, false, false, false] rfl rfl (any_of HT_.out (by kernel_rfl)) (fun _ _ _ h => h) (Or.inl ⟨by rfl, ?_⟩) ?_ ?_
      rotate_left
      · intro w'
        go_simp
        with_reducible rfl
      rotate_left
      · simp only [Act.put, List.setIfInBounds_toArray, List.set_cons_zero, List.set_cons_succ, i64_w, i32_w]
        rfl
      refine take_ (i := 0) (N := some 11) (v := ?_) (a' := ?_) #[true, true, true, false, false, false, false, false, false, false, false, false, false, false, false, false, false, false, false, false, false, false, false] rfl rfl (take_ofW HT_.out HW_.out (by kernel_rfl)) (fun _ _ _ h => h) (Or.inl ⟨by rfl, ?_⟩) hHeld ?_ ?_
      rotate_left
      · rintro w' ⟨s0, s1, s2, s3⟩
        go_simp
        with_reducible rfl
      rotate_left
      · simp only [Act.put, List.setIfInBounds_toArray, List.set_cons_zero, List.set_cons_succ, i64_w, i32_w]
        rfl
      refine one_ (i := 3) (N := some 14) #[true, true, true, true, false, false, false, false, false, false, false, false, false, false, false, false, false, false, false, false, false, false, false] rfl rfl (one_of HT_.out (by kernel_rfl)) (by decide) (fun K hK => ?_)
      refine goes_ Try.func39 (by kernel_rfl) rfl #[.agg #[.int .i64 a0_0, .int .i64 a0_1, .slice A0_2 l0_2.length c0_2, .slice A0_3 l0_3.length c0_3], .int .i64 a1, .int .i64 a2] (by rfl) rfl rfl (by (try simp only [List.map_toArray, List.map_cons, List.map_nil]); first | done | rfl | (simp only [List.length_drop, List.length_take]; rfl)) ?_
      with_reducible refine (rice_shape.calls a0_0 a0_1 _ _ l0_2 _ _ l0_3 a1 a2 false _ ?side1 ?side2 ?side3 ?side4 A6.out).mono ?_
      (case side1 => repeat (first | exact (Kd.C_below HR0_2.out HB.out) | (with_reducible refine Kd.C_alloc ?_ _) | (with_reducible refine Kd.C_drewN ?_ _) | (with_reducible refine Kd.C_drew ?_)))
      (case side2 => exact HC0_2.out)
      (case side3 => repeat (first | exact (Kd.C_below HR0_3.out HB.out) | (with_reducible refine Kd.C_alloc ?_ _) | (with_reducible refine Kd.C_drewN ?_ _) | (with_reducible refine Kd.C_drew ?_)))
      (case side4 => exact HC0_3.out)
      rintro e w17 ⟨rfl, hb⟩
      refine ⟨_, rfl, ?_⟩
      have n0_ := Aside0.mk (blk_below (g := gb105) (o := .cells #[.int .i64 a0_0, .int .i64 a0_1, .slice A0_2 l0_2.length c0_2, .slice A0_3 l0_3.length c0_3] 24 (0, 0)) (by (with_reducible repeat (first | refine blk_drewN ?_ _ | refine blk_drew ?_ | refine blk_alloc ?_ _)); exact BK105.out) hb)
      have n1_ := Aside0.mk (below_step (by repeat (first | (with_reducible first | exact HB.out | apply below_alloc | apply pw_below_drewN | apply below_drew1 | refine below_set ?_ GE105.out) | exact HB.out)) hb)
      clear BK105
      clear HB
      have BK105 := n0_
      have HB := n1_
      clear n0_ n1_
      (try clear hb)
      (try clear hb2)
      (try clear hk)
      (try clear hi)
      refine hK.out _ _ ⟨(blk_cell BK105.out 0).trans rfl, (blk_cell BK105.out 1).trans rfl, (blk_cell BK105.out 2).trans rfl, (blk_cell BK105.out 3).trans rfl⟩ (fun hHeld => ?_)
      clear hK K
      refine norm_ (a' := ?_) ?_ ?_
      rotate_left
      · show Act.put _ (some 14) _ = _
        simp only [Act.put, List.setIfInBounds_toArray, List.set_cons_zero, List.set_cons_succ, i64_w, i32_w]
        rfl
      refine pure_ (i := 4) (N := some 15) (v := ?_) (a' := ?_) #[true, true, true, true, true, false, false, false, false, false, false, false, false, false, false, false, false, false, false, false, false, false, false] rfl rfl (any_of HT_.out (by kernel_rfl)) (fun _ _ _ h => h) (Or.inl ⟨by rfl, ?_⟩) ?_ ?_
      rotate_left
      · intro w'
        go_simp
        with_reducible rfl
      rotate_left
      · simp only [Act.put, List.setIfInBounds_toArray, List.set_cons_zero, List.set_cons_succ, i64_w, i32_w]
        rfl
      refine pure_ (i := 5) (N := some 16) (v := ?_) (a' := ?_) #[true, true, true, true, true, true, false, false, false, false, false, false, false, false, false, false, false, false, false, false, false, false, false] rfl rfl (any_of HT_.out (by kernel_rfl)) (fun _ _ _ h => h) (Or.inl ⟨by rfl, ?_⟩) ?_ ?_
      rotate_left
      · intro w'
        go_simp
        with_reducible rfl
      rotate_left
      · simp only [Act.put, List.setIfInBounds_toArray, List.set_cons_zero, List.set_cons_succ, i64_w, i32_w]
        rfl
      refine pure_ (i := 6) (N := some 17) (v := undef) (a' := ?_) #[true, true, true, true, true, true, true, false, false, false, false, false, false, false, false, false, false, false, false, false, false, false, false] rfl rfl (any_of HT_.out (by kernel_rfl)) (fun _ _ _ h => h) (Or.inr ⟨by rfl, rfl⟩) ?_ ?_
      rotate_left
      · simp only [Act.put, List.setIfInBounds_toArray, List.set_cons_zero, List.set_cons_succ, i64_w, i32_w]
        rfl
      refine pure_ (i := 7) (N := some 18) (v := undef) (a' := ?_) #[true, true, true, true, true, true, true, true, false, false, false, false, false, false, false, false, false, false, false, false, false, false, false] rfl rfl (any_of HT_.out (by kernel_rfl)) (fun _ _ _ h => h) (Or.inr ⟨by rfl, rfl⟩) ?_ ?_
      rotate_left
      · simp only [Act.put, List.setIfInBounds_toArray, List.set_cons_zero, List.set_cons_succ, i64_w, i32_w]
        rfl
      refine pure_ (i := 8) (N := some 19) (v := undef) (a' := ?_) #[true, true, true, true, true, true, true, true, true, false, false, false, false, false, false, false, false, false, false, false, false, false, false] rfl rfl (any_of HT_.out (by kernel_rfl)) (fun _ _ _ h => h) (Or.inr ⟨by rfl, rfl⟩) ?_ ?_
      rotate_left
      · simp only [Act.put, List.setIfInBounds_toArray, List.set_cons_zero, List.set_cons_succ, i64_w, i32_w]
        rfl
      refine pure_ (i := 9) (N := some 20) (v := undef) (a' := ?_) #[true, true, true, true, true, true, true, true, true, true, false, false, false, false, false, false, false, false, false, false, false, false, false] rfl rfl (any_of HT_.out (by kernel_rfl)) (fun _ _ _ h => h) (Or.inr ⟨by rfl, rfl⟩) ?_ ?_
      rotate_left
      · simp only [Act.put, List.setIfInBounds_toArray, List.set_cons_zero, List.set_cons_succ, i64_w, i32_w]
        rfl
      refine pure_ (i := 10) (N := some 21) (v := undef) (a' := ?_) #[true, true, true, true, true, true, true, true, true, true, true, false, false, false, false, false, false, false, false, false, false, false, false] rfl rfl (any_of HT_.out (by kernel_rfl)) (fun _ _ _ h => h) (Or.inr ⟨by rfl, rfl⟩) ?_ ?_
      rotate_left
      · simp only [Act.put, List.setIfInBounds_toArray, List.set_cons_zero, List.set_cons_succ, i64_w, i32_w]
        rfl
      refine pure_ (i := 11) (N := some 22) (v := undef) (a' := ?_) #[true, true, true, true, true, true, true, true, true, true, true, true, false, false, false, false, false, false, false, false, false, false, false] rfl rfl (any_of HT_.out (by kernel_rfl)) (fun _ _ _ h => h) (Or.inr ⟨by rfl, rfl⟩) ?_ ?_
      rotate_left
      · simp only [Act.put, List.setIfInBounds_toArray, List.set_cons_zero, List.set_cons_succ, i64_w, i32_w]
        rfl
      refine pure_ (i := 12) (N := some 23) (v := undef) (a' := ?_) #[true, true, true, true, true, true, true, true, true, true, true, true, true, false, false, false, false, false, false, false, false, false, false] rfl rfl (any_of HT_.out (by kernel_rfl)) (fun _ _ _ h => h) (Or.inr ⟨by rfl, rfl⟩) ?_ ?_
      rotate_left
      · simp only [Act.put, List.setIfInBounds_toArray, List.set_cons_zero, List.set_cons_succ, i64_w, i32_w]
        rfl
      refine pure_ (i := 13) (N := some 24) (v := ?_) (a' := ?_) #[true, true, true, true, true, true, true, true, true, true, true, true, true, true, false, false, false, false, false, false, false, false, false] rfl rfl (any_of HT_.out (by kernel_rfl)) (fun _ _ _ h => h) (Or.inl ⟨by rfl, ?_⟩) ?_ ?_
      rotate_left
      · intro w'
        go_simp
        with_reducible rfl
      rotate_left
      · simp only [Act.put, List.setIfInBounds_toArray, List.set_cons_zero, List.set_cons_succ, i64_w, i32_w]
        rfl
      refine pure_ (i := 14) (N := some 25) (v := ?_) (a' := ?_) #[true, true, true, true, true, true, true, true, true, true, true, true, true, true, true, false, false, false, false, false, false, false, false] rfl rfl (any_of HT_.out (by kernel_rfl)) (fun _ _ _ h => h) (Or.inl ⟨by rfl, ?_⟩) ?_ ?_
      rotate_left
      · intro w'
        go_simp
        with_reducible rfl
      rotate_left
      · simp only [Act.put, List.setIfInBounds_toArray, List.set_cons_zero, List.set_cons_succ, i64_w, i32_w]
        rfl
      refine pure_ (i := 15) (N := some 26) (v := undef) (a' := ?_) #[true, true, true, true, true, true, true, true, true, true, true, true, true, true, true, true, false, false, false, false, false, false, false] rfl rfl (any_of HT_.out (by kernel_rfl)) (fun _ _ _ h => h) (Or.inr ⟨by rfl, rfl⟩) ?_ ?_
      rotate_left
      · simp only [Act.put, List.setIfInBounds_toArray, List.set_cons_zero, List.set_cons_succ, i64_w, i32_w]
        rfl
      refine pure_ (i := 16) (N := some 27) (v := undef) (a' := ?_) #[true, true, true, true, true, true, true, true, true, true, true, true, true, true, true, true, true, false, false, false, false, false, false] rfl rfl (any_of HT_.out (by kernel_rfl)) (fun _ _ _ h => h) (Or.inr ⟨by rfl, rfl⟩) ?_ ?_
      rotate_left
      · simp only [Act.put, List.setIfInBounds_toArray, List.set_cons_zero, List.set_cons_succ, i64_w, i32_w]
        rfl
      refine pure_ (i := 17) (N := some 28) (v := undef) (a' := ?_) #[true, true, true, true, true, true, true, true, true, true, true, true, true, true, true, true, true, true, false, false, false, false, false] rfl rfl (any_of HT_.out (by kernel_rfl)) (fun _ _ _ h => h) (Or.inr ⟨by rfl, rfl⟩) ?_ ?_
      rotate_left
      · simp only [Act.put, List.setIfInBounds_toArray, List.set_cons_zero, List.set_cons_succ, i64_w, i32_w]
        rfl
      refine pure_ (i := 18) (N := some 29) (v := undef) (a' := ?_) #[true, true, true, true, true, true, true, true, true, true, true, true, true, true, true, true, true, true, true, false, false, false, false] rfl rfl (any_of HT_.out (by kernel_rfl)) (fun _ _ _ h => h) (Or.inr ⟨by rfl, rfl⟩) ?_ ?_
      rotate_left
      · simp only [Act.put, List.setIfInBounds_toArray, List.set_cons_zero, List.set_cons_succ, i64_w, i32_w]
        rfl
      refine pure_ (i := 19) (N := some 30) (v := undef) (a' := ?_) #[true, true, true, true, true, true, true, true, true, true, true, true, true, true, true, true, true, true, true, true, false, false, false] rfl rfl (any_of HT_.out (by kernel_rfl)) (fun _ _ _ h => h) (Or.inr ⟨by rfl, rfl⟩) ?_ ?_
      rotate_left
      · simp only [Act.put, List.setIfInBounds_toArray, List.set_cons_zero, List.set_cons_succ, i64_w, i32_w]
        rfl
      refine pure_ (i := 20) (N := some 31) (v := undef) (a' := ?_) #[true, true, true, true, true, true, true, true, true, true, true, true, true, true, true, true, true, true, true, true, true, false, false] rfl rfl (any_of HT_.out (by kernel_rfl)) (fun _ _ _ h => h) (Or.inr ⟨by rfl, rfl⟩) ?_ ?_
      rotate_left
      · simp only [Act.put, List.setIfInBounds_toArray, List.set_cons_zero, List.set_cons_succ, i64_w, i32_w]
        rfl
      refine pure_ (i := 21) (N := some 32) (v := undef) (a' := ?_) #[true, true, true, true, true, true, true, true, true, true, true, true, true, true, true, true, true, true, true, true, true, true, false] rfl rfl (any_of HT_.out (by kernel_rfl)) (fun _ _ _ h => h) (Or.inr ⟨by rfl, rfl⟩) ?_ ?_
      rotate_left
      · simp only [Act.put, List.setIfInBounds_toArray, List.set_cons_zero, List.set_cons_succ, i64_w, i32_w]
        rfl
      refine pure_ (i := 22) (N := some 33) (v := ?_) (a' := ?_) #[true, true, true, true, true, true, true, true, true, true, true, true, true, true, true, true, true, true, true, true, true, true, true] rfl rfl (any_of HT_.out (by kernel_rfl)) (fun _ _ _ h => h) (Or.inl ⟨by rfl, ?_⟩) ?_ ?_
      rotate_left
      · intro w'
        go_simp
        with_reducible rfl
      rotate_left
      · simp only [Act.put, List.setIfInBounds_toArray, List.set_cons_zero, List.set_cons_succ, i64_w, i32_w]
        rfl
      refine done_ (done_of HT_.out (by kernel_rfl)) ?_
      try go_wp2
      go_meet
      case rel => exact ⟨_, (true), (by first | rfl | (simp; done) | (simp [*]; done)), H', ⟨by first | omega | exact Nat.le_refl _⟩, ⟨by (with_reducible repeat (first | refine blk_drewN ?_ _ | refine blk_drew ?_ | refine blk_alloc ?_ _)); exact BK105.out⟩, ⟨by repeat (first | (with_reducible first | exact HB.out | apply below_alloc | apply pw_below_drewN | apply below_drew1 | refine below_set ?_ GE105.out) | exact HB.out)⟩⟩
  case rest =>
    clear HC4
    try clear c1
    try clear p2
    try clear c3
    try clear p6
    try clear c7
    try clear c8
    try clear c10
    try clear c10b0
    try clear c10b1
    try clear c11
    try clear c11b0
    obtain ⟨kq, x33_3, rfl, HA, HJ3, BK105, HB⟩ := hcut
    cases kq with
    | zero => exact absurd HA.out (by simp [rice_Check.j0])
    | succ kj3 =>
      have H := HA.out
      clear HA
      simp only [rice_Check.j0] at H
      by_cases c18 : x33_3 = true
      · subst c18
        have H1 : (some 60) = some r := by rw [if_pos rfl] at H; exact H
        clear H
        have H := H1
        clear H1
        obtain rfl := Option.some.inj H
        go_wp2
        go_ret
        exact ⟨by first | rfl | (simp [errW_none, errW_some] <;> rfl) | (simp [*, errW_none, errW_some] <;> rfl), by repeat (first | (with_reducible first | exact HB.out | apply below_alloc | apply pw_below_drewN | apply below_drew1 | refine below_set ?_ GE105.out) | exact HB.out)⟩
      · replace c18 := Bool.eq_false_iff.mpr c18
        subst c18
        have H1 : (if a0_0 = 1 then (rice_Check.j1 kj3 30 a0_0 a0_1 l0_2 l0_3) else (rice_Check.j1 kj3 14 a0_0 a0_1 l0_2 l0_3)) = some r := by rw [if_neg (show ¬ (false = true) by decide)] at H; exact H
        clear H
        have H := H1
        clear H1
        have HC19 := Aside0.mk H
        clear H
        have hcz20_0 : wc.cell? ⟨gb105, 0, none⟩ = some (.int .i64 a0_0) := (blk_cell BK105.out 0).trans rfl
        have hcz20_1 : wc.cell? ⟨gb105, 1, none⟩ = some (.int .i64 a0_1) := (blk_cell BK105.out 1).trans rfl
        have hcz20_2 : wc.cell? ⟨gb105, 2, none⟩ = some (.slice A0_2 l0_2.length c0_2) := (blk_cell BK105.out 2).trans rfl
        have hcz20_3 : wc.cell? ⟨gb105, 3, none⟩ = some (.slice A0_3 l0_3.length c0_3) := (blk_cell BK105.out 3).trans rfl
        have hfz20_0 := blk_frozen BK105.out 0
        have hfz20_1 := blk_frozen BK105.out 1
        have hfz20_2 := blk_frozen BK105.out 2
        have hfz20_3 := blk_frozen BK105.out 3
        go_upto_if 36 with (fail)
        go_cut [7] (fun v7 wc => ∃ (kq : Nat) (x7_18 : Int), v7 = .int .i64 x7_18 ∧ Aside0 (rice_Check.j1 kq x7_18 a0_0 a0_1 l0_2 l0_3 = some r) ∧ Aside0 (kq ≤ kj3) ∧ Aside0 (wc.heap[gb105]? = some (.cells #[.int .i64 a0_0, .int .i64 a0_1, (.slice A0_2 l0_2.length c0_2), (.slice A0_3 l0_3.length c0_3)] 24 (0, 0))) ∧ Aside0 (Below w.heap.size w wc))
        case first =>
          have H := HC19.out
          clear HC19
          by_cases c21 : a0_0 = 1
          · rw [if_pos c21] at H
            have c21b0 : (a0_0 == 1) = true := beq_iff_eq.mpr c21
            have c21b1 : (a0_0 != 1) = false := bne_eq_false_iff_eq.mpr c21
            clear c21
            (first | rw [c21b0] | (simp only [i64_w, i32_w]; rw [c21b0]) | skip)
            have H' := Aside0.mk H
            clear H
            go_wp2
            go_meet
            case rel => exact ⟨_, (30), (by first | rfl | (simp; done) | (simp [*]; done)), H', ⟨by have := HJ3.out; first | omega | exact Nat.le_refl _⟩, ⟨by (with_reducible repeat (first | refine blk_drewN ?_ _ | refine blk_drew ?_ | refine blk_alloc ?_ _)); exact BK105.out⟩, ⟨by repeat (first | (with_reducible first | exact HB.out | apply below_alloc | apply pw_below_drewN | apply below_drew1 | refine below_set ?_ GE105.out) | exact HB.out)⟩⟩
          · rw [if_neg c21] at H
            have c21b0 : (a0_0 == 1) = false := beq_eq_false_iff_ne.mpr c21
            have c21b1 : (a0_0 != 1) = true := bne_iff_ne.mpr c21
            (first | rw [c21b0] | (simp only [i64_w, i32_w]; rw [c21b0]) | skip)
            have H' := Aside0.mk H
            clear H
            go_wp2
            go_meet
            case rel => exact ⟨_, (14), (by first | rfl | (simp; done) | (simp [*]; done)), H', ⟨by have := HJ3.out; first | omega | exact Nat.le_refl _⟩, ⟨by (with_reducible repeat (first | refine blk_drewN ?_ _ | refine blk_drew ?_ | refine blk_alloc ?_ _)); exact BK105.out⟩, ⟨by repeat (first | (with_reducible first | exact HB.out | apply below_alloc | apply pw_below_drewN | apply below_drew1 | refine below_set ?_ GE105.out) | exact HB.out)⟩⟩
        case rest =>
          clear HC19
          try clear c1
          try clear c2
          try clear p2
          try clear c3
          try clear p6
          try clear c7
          try clear c8
          try clear c10
          try clear c10b0
          try clear c10b1
          try clear c11
          try clear c11b0
          try clear c18
          try clear c21
          try clear c21b0
          try clear c21b1
          try clear hcz20_0
          try clear hcz20_1
          try clear hcz20_2
          try clear hcz20_3
          try clear hfz20_0
          try clear hfz20_1
          try clear hfz20_2
          try clear hfz20_3
          try clear p2
          try clear p6
          obtain ⟨kq, x7_18, rfl, HA, HJ18, BK105, HB⟩ := hcut
          cases kq with
          | zero => exact absurd HA.out (by simp [rice_Check.j1])
          | succ kj18 =>
            have H := HA.out
            clear HA
            simp only [rice_Check.j1] at H
            have H' := Aside0.mk H
            clear H
            have hcz22_0 : wc.cell? ⟨gb105, 0, none⟩ = some (.int .i64 a0_0) := (blk_cell BK105.out 0).trans rfl
            have hcz22_1 : wc.cell? ⟨gb105, 1, none⟩ = some (.int .i64 a0_1) := (blk_cell BK105.out 1).trans rfl
            have hcz22_2 : wc.cell? ⟨gb105, 2, none⟩ = some (.slice A0_2 l0_2.length c0_2) := (blk_cell BK105.out 2).trans rfl
            have hcz22_3 : wc.cell? ⟨gb105, 3, none⟩ = some (.slice A0_3 l0_3.length c0_3) := (blk_cell BK105.out 3).trans rfl
            have hfz22_0 := blk_frozen BK105.out 0
            have hfz22_1 := blk_frozen BK105.out 1
            have hfz22_2 := blk_frozen BK105.out 2
            have hfz22_3 := blk_frozen BK105.out 3
            go_wp2
            go_loopg [40] kj18 (fun kq v40 w' => ∃ (x40_3 : Int), v40 = .int .i64 x40_3 ∧ Aside0 (rice_Check.l0 kq x7_18 l0_2 (l0_2.length : Int) x40_3 a0_0 a0_1 l0_2 l0_3 = some r) ∧ Aside0 (kq ≤ kj18) ∧ Aside0 (w'.heap[gb105]? = some (.cells #[.int .i64 a0_0, .int .i64 a0_1, (.slice A0_2 l0_2.length c0_2), (.slice A0_3 l0_3.length c0_3)] 24 (0, 0))) ∧ Aside0 (Below w.heap.size w w'))
            case atStart => exact ⟨(0), (by first | rfl | (simp; done) | (simp [*]; done)), H', ⟨Nat.le_refl _⟩, ⟨by (with_reducible repeat (first | refine blk_drewN ?_ _ | refine blk_drew ?_ | refine blk_alloc ?_ _)); exact BK105.out⟩, ⟨by repeat (first | (with_reducible first | exact HB.out | apply below_alloc | apply pw_below_drewN | apply below_drew1 | refine below_set ?_ GE105.out) | exact HB.out)⟩⟩
            case round =>
              clear H'
              try clear c1
              try clear c2
              try clear p2
              try clear c3
              try clear p6
              try clear c7
              try clear c8
              try clear c10
              try clear c10b0
              try clear c10b1
              try clear c11
              try clear c11b0
              try clear c18
              try clear c21
              try clear c21b0
              try clear c21b1
              try clear hcz20_0
              try clear hcz20_1
              try clear hcz20_2
              try clear hcz20_3
              try clear hcz22_0
              try clear hcz22_1
              try clear hcz22_2
              try clear hcz22_3
              try clear hfz20_0
              try clear hfz20_1
              try clear hfz20_2
              try clear hfz20_3
              try clear hfz22_0
              try clear hfz22_1
              try clear hfz22_2
              try clear hfz22_3
              try clear p2
              try clear p6
              obtain ⟨x40_3, rfl, HA, HK3, BK105, HB⟩ := hrel
              cases gk with
              | zero => exact absurd HA.out (by simp [rice_Check.l0])
              | succ k3 =>
                have H := HA.out
                clear HA
                simp only [rice_Check.l0] at H
                by_cases c23 : x40_3 < (l0_2.length : Int)
                · rw [if_pos c23] at H
                  have c23b0 : decide (x40_3 < (l0_2.length : Int)) = true := decide_eq_true c23
                  clear c23
                  by_cases c24 : 0 ≤ x40_3
                  · rw [if_pos c24] at H
                    have c24b0 : decide (0 ≤ x40_3) = true := decide_eq_true c24
                    clear c24
                    by_cases c25 : x40_3 < (l0_2.length : Int)
                    · rw [if_pos c25] at H
                      have c25b0 : decide (x40_3 < (l0_2.length : Int)) = true := decide_eq_true c25
                      clear c25
                      by_cases c26 : x40_3 < (l0_3.length : Int)
                      · rw [if_pos c26] at H
                        have c26b0 : decide (x40_3 < (l0_3.length : Int)) = true := decide_eq_true c26
                        clear c26
                        by_cases c27 : (rd l0_2 x40_3) < 0
                        · rw [if_pos c27] at H
                          have c27b0 : decide ((rd l0_2 x40_3) < 0) = true := decide_eq_true c27
                          clear c27
                          obtain rfl := Option.some.inj H
                          have p107 : 0 ≤ (x40_3 : Int) := of_decide_eq_true (by first | (with_reducible assumption) | assumption)
                          have q107 : x40_3 < (l0_2.length : Int) := of_decide_eq_true (by first | (with_reducible assumption) | assumption)
                          obtain ⟨ad107, e107, hx107_0⟩ := Kd.at_int HR0_2.out x40_3 p107 q107
                          cases e107
                          replace hx107_0 := (HB.out.cell (World.block_lt_of_cell? w _ hx107_0)).trans hx107_0
                          replace p107 := eq_true p107
                          replace q107 := eq_true q107
                          have hcz28_0 : wr.cell? ⟨gb105, 0, none⟩ = some (.int .i64 a0_0) := (blk_cell BK105.out 0).trans rfl
                          have hcz28_1 : wr.cell? ⟨gb105, 1, none⟩ = some (.int .i64 a0_1) := (blk_cell BK105.out 1).trans rfl
                          have hcz28_2 : wr.cell? ⟨gb105, 2, none⟩ = some (.slice (some ad107) l0_2.length c0_2) := (blk_cell BK105.out 2).trans rfl
                          have hcz28_3 : wr.cell? ⟨gb105, 3, none⟩ = some (.slice A0_3 l0_3.length c0_3) := (blk_cell BK105.out 3).trans rfl
                          have hfz28_0 := blk_frozen BK105.out 0
                          have hfz28_1 := blk_frozen BK105.out 1
                          have hfz28_2 := blk_frozen BK105.out 2
                          have hfz28_3 := blk_frozen BK105.out 3
                          have p108 : 0 ≤ (x40_3 : Int) := of_decide_eq_true (by first | (with_reducible assumption) | assumption)
                          have q108 : x40_3 < (l0_3.length : Int) := of_decide_eq_true (by first | (with_reducible assumption) | assumption)
                          obtain ⟨ad108, e108, hx108_0⟩ := Kd.at_int HR0_3.out x40_3 p108 q108
                          cases e108
                          replace hx108_0 := (HB.out.cell (World.block_lt_of_cell? w _ hx108_0)).trans hx108_0
                          replace p108 := eq_true p108
                          replace q108 := eq_true q108
                          go_wp2
                          go_ret
                          exact ⟨by first | rfl | (simp [errW_none, errW_some] <;> rfl) | (simp [*, errW_none, errW_some] <;> rfl), by repeat (first | (with_reducible first | exact HB.out | apply below_alloc | apply pw_below_drewN | apply below_drew1 | refine below_set ?_ GE105.out) | exact HB.out)⟩
                        · rw [if_neg c27] at H
                          have c27b0 : decide ((rd l0_2 x40_3) < 0) = false := decide_eq_false c27
                          clear c27
                          by_cases c29 : (rd l0_2 x40_3) > x7_18
                          · rw [if_pos c29] at H
                            have c29b0 : decide (x7_18 < (rd l0_2 x40_3)) = true := decide_eq_true c29
                            clear c29
                            obtain rfl := Option.some.inj H
                            have p107 : 0 ≤ (x40_3 : Int) := of_decide_eq_true (by first | (with_reducible assumption) | assumption)
                            have q107 : x40_3 < (l0_2.length : Int) := of_decide_eq_true (by first | (with_reducible assumption) | assumption)
                            obtain ⟨ad107, e107, hx107_0⟩ := Kd.at_int HR0_2.out x40_3 p107 q107
                            cases e107
                            replace hx107_0 := (HB.out.cell (World.block_lt_of_cell? w _ hx107_0)).trans hx107_0
                            replace p107 := eq_true p107
                            replace q107 := eq_true q107
                            have hcz30_0 : wr.cell? ⟨gb105, 0, none⟩ = some (.int .i64 a0_0) := (blk_cell BK105.out 0).trans rfl
                            have hcz30_1 : wr.cell? ⟨gb105, 1, none⟩ = some (.int .i64 a0_1) := (blk_cell BK105.out 1).trans rfl
                            have hcz30_2 : wr.cell? ⟨gb105, 2, none⟩ = some (.slice (some ad107) l0_2.length c0_2) := (blk_cell BK105.out 2).trans rfl
                            have hcz30_3 : wr.cell? ⟨gb105, 3, none⟩ = some (.slice A0_3 l0_3.length c0_3) := (blk_cell BK105.out 3).trans rfl
                            have hfz30_0 := blk_frozen BK105.out 0
                            have hfz30_1 := blk_frozen BK105.out 1
                            have hfz30_2 := blk_frozen BK105.out 2
                            have hfz30_3 := blk_frozen BK105.out 3
                            have p108 : 0 ≤ (x40_3 : Int) := of_decide_eq_true (by first | (with_reducible assumption) | assumption)
                            have q108 : x40_3 < (l0_3.length : Int) := of_decide_eq_true (by first | (with_reducible assumption) | assumption)
                            obtain ⟨ad108, e108, hx108_0⟩ := Kd.at_int HR0_3.out x40_3 p108 q108
                            cases e108
                            replace hx108_0 := (HB.out.cell (World.block_lt_of_cell? w _ hx108_0)).trans hx108_0
                            replace p108 := eq_true p108
                            replace q108 := eq_true q108
                            go_wp2
                            go_ret
                            exact ⟨by first | rfl | (simp [errW_none, errW_some] <;> rfl) | (simp [*, errW_none, errW_some] <;> rfl), by repeat (first | (with_reducible first | exact HB.out | apply below_alloc | apply pw_below_drewN | apply below_drew1 | refine below_set ?_ GE105.out) | exact HB.out)⟩
                          · rw [if_neg c29] at H
                            have c29b0 : decide (x7_18 < (rd l0_2 x40_3)) = false := decide_eq_false c29
                            clear c29
                            by_cases c31 : (rd l0_3 x40_3) < (-1)
                            · rw [if_pos c31] at H
                              have c31b0 : decide ((rd l0_3 x40_3) < (-1)) = true := decide_eq_true c31
                              clear c31
                              obtain rfl := Option.some.inj H
                              have p107 : 0 ≤ (x40_3 : Int) := of_decide_eq_true (by first | (with_reducible assumption) | assumption)
                              have q107 : x40_3 < (l0_2.length : Int) := of_decide_eq_true (by first | (with_reducible assumption) | assumption)
                              obtain ⟨ad107, e107, hx107_0⟩ := Kd.at_int HR0_2.out x40_3 p107 q107
                              cases e107
                              replace hx107_0 := (HB.out.cell (World.block_lt_of_cell? w _ hx107_0)).trans hx107_0
                              replace p107 := eq_true p107
                              replace q107 := eq_true q107
                              have hcz32_0 : wr.cell? ⟨gb105, 0, none⟩ = some (.int .i64 a0_0) := (blk_cell BK105.out 0).trans rfl
                              have hcz32_1 : wr.cell? ⟨gb105, 1, none⟩ = some (.int .i64 a0_1) := (blk_cell BK105.out 1).trans rfl
                              have hcz32_2 : wr.cell? ⟨gb105, 2, none⟩ = some (.slice (some ad107) l0_2.length c0_2) := (blk_cell BK105.out 2).trans rfl
                              have hcz32_3 : wr.cell? ⟨gb105, 3, none⟩ = some (.slice A0_3 l0_3.length c0_3) := (blk_cell BK105.out 3).trans rfl
                              have hfz32_0 := blk_frozen BK105.out 0
                              have hfz32_1 := blk_frozen BK105.out 1
                              have hfz32_2 := blk_frozen BK105.out 2
                              have hfz32_3 := blk_frozen BK105.out 3
                              have p108 : 0 ≤ (x40_3 : Int) := of_decide_eq_true (by first | (with_reducible assumption) | assumption)
                              have q108 : x40_3 < (l0_3.length : Int) := of_decide_eq_true (by first | (with_reducible assumption) | assumption)
                              obtain ⟨ad108, e108, hx108_0⟩ := Kd.at_int HR0_3.out x40_3 p108 q108
                              cases e108
                              replace hx108_0 := (HB.out.cell (World.block_lt_of_cell? w _ hx108_0)).trans hx108_0
                              replace p108 := eq_true p108
                              replace q108 := eq_true q108
                              go_wp2
                              go_ret
                              exact ⟨by first | rfl | (simp [errW_none, errW_some] <;> rfl) | (simp [*, errW_none, errW_some] <;> rfl), by repeat (first | (with_reducible first | exact HB.out | apply below_alloc | apply pw_below_drewN | apply below_drew1 | refine below_set ?_ GE105.out) | exact HB.out)⟩
                            · rw [if_neg c31] at H
                              have c31b0 : decide ((rd l0_3 x40_3) < (-1)) = false := decide_eq_false c31
                              clear c31
                              by_cases c33 : (rd l0_3 x40_3) > 31
                              · rw [if_pos c33] at H
                                have c33b0 : decide (31 < (rd l0_3 x40_3)) = true := decide_eq_true c33
                                clear c33
                                obtain rfl := Option.some.inj H
                                have p107 : 0 ≤ (x40_3 : Int) := of_decide_eq_true (by first | (with_reducible assumption) | assumption)
                                have q107 : x40_3 < (l0_2.length : Int) := of_decide_eq_true (by first | (with_reducible assumption) | assumption)
                                obtain ⟨ad107, e107, hx107_0⟩ := Kd.at_int HR0_2.out x40_3 p107 q107
                                cases e107
                                replace hx107_0 := (HB.out.cell (World.block_lt_of_cell? w _ hx107_0)).trans hx107_0
                                replace p107 := eq_true p107
                                replace q107 := eq_true q107
                                have hcz34_0 : wr.cell? ⟨gb105, 0, none⟩ = some (.int .i64 a0_0) := (blk_cell BK105.out 0).trans rfl
                                have hcz34_1 : wr.cell? ⟨gb105, 1, none⟩ = some (.int .i64 a0_1) := (blk_cell BK105.out 1).trans rfl
                                have hcz34_2 : wr.cell? ⟨gb105, 2, none⟩ = some (.slice (some ad107) l0_2.length c0_2) := (blk_cell BK105.out 2).trans rfl
                                have hcz34_3 : wr.cell? ⟨gb105, 3, none⟩ = some (.slice A0_3 l0_3.length c0_3) := (blk_cell BK105.out 3).trans rfl
                                have hfz34_0 := blk_frozen BK105.out 0
                                have hfz34_1 := blk_frozen BK105.out 1
                                have hfz34_2 := blk_frozen BK105.out 2
                                have hfz34_3 := blk_frozen BK105.out 3
                                have p108 : 0 ≤ (x40_3 : Int) := of_decide_eq_true (by first | (with_reducible assumption) | assumption)
                                have q108 : x40_3 < (l0_3.length : Int) := of_decide_eq_true (by first | (with_reducible assumption) | assumption)
                                obtain ⟨ad108, e108, hx108_0⟩ := Kd.at_int HR0_3.out x40_3 p108 q108
                                cases e108
                                replace hx108_0 := (HB.out.cell (World.block_lt_of_cell? w _ hx108_0)).trans hx108_0
                                replace p108 := eq_true p108
                                replace q108 := eq_true q108
                                go_wp2
                                go_ret
                                exact ⟨by first | rfl | (simp [errW_none, errW_some] <;> rfl) | (simp [*, errW_none, errW_some] <;> rfl), by repeat (first | (with_reducible first | exact HB.out | apply below_alloc | apply pw_below_drewN | apply below_drew1 | refine below_set ?_ GE105.out) | exact HB.out)⟩
                              · rw [if_neg c33] at H
                                have c33b0 : decide (31 < (rd l0_3 x40_3)) = false := decide_eq_false c33
                                clear c33
                                by_cases c35 : (rd l0_3 x40_3) ≥ 0
                                · rw [if_pos c35] at H
                                  have c35b0 : decide (0 ≤ (rd l0_3 x40_3)) = true := decide_eq_true c35
                                  clear c35
                                  by_cases c36 : (rd l0_2 x40_3) = 0
                                  · rw [if_pos c36] at H
                                    have c36b0 : ((rd l0_2 x40_3) == 0) = true := beq_iff_eq.mpr c36
                                    have c36b1 : ((rd l0_2 x40_3) != 0) = false := bne_eq_false_iff_eq.mpr c36
                                    clear c36
                                    have H' := Aside0.mk H
                                    clear H
                                    have p107 : 0 ≤ (x40_3 : Int) := of_decide_eq_true (by first | (with_reducible assumption) | assumption)
                                    have q107 : x40_3 < (l0_2.length : Int) := of_decide_eq_true (by first | (with_reducible assumption) | assumption)
                                    obtain ⟨ad107, e107, hx107_0⟩ := Kd.at_int HR0_2.out x40_3 p107 q107
                                    cases e107
                                    replace hx107_0 := (HB.out.cell (World.block_lt_of_cell? w _ hx107_0)).trans hx107_0
                                    replace p107 := eq_true p107
                                    replace q107 := eq_true q107
                                    have hcz37_0 : wr.cell? ⟨gb105, 0, none⟩ = some (.int .i64 a0_0) := (blk_cell BK105.out 0).trans rfl
                                    have hcz37_1 : wr.cell? ⟨gb105, 1, none⟩ = some (.int .i64 a0_1) := (blk_cell BK105.out 1).trans rfl
                                    have hcz37_2 : wr.cell? ⟨gb105, 2, none⟩ = some (.slice (some ad107) l0_2.length c0_2) := (blk_cell BK105.out 2).trans rfl
                                    have hcz37_3 : wr.cell? ⟨gb105, 3, none⟩ = some (.slice A0_3 l0_3.length c0_3) := (blk_cell BK105.out 3).trans rfl
                                    have hfz37_0 := blk_frozen BK105.out 0
                                    have hfz37_1 := blk_frozen BK105.out 1
                                    have hfz37_2 := blk_frozen BK105.out 2
                                    have hfz37_3 := blk_frozen BK105.out 3
                                    have p108 : 0 ≤ (x40_3 : Int) := of_decide_eq_true (by first | (with_reducible assumption) | assumption)
                                    have q108 : x40_3 < (l0_3.length : Int) := of_decide_eq_true (by first | (with_reducible assumption) | assumption)
                                    obtain ⟨ad108, e108, hx108_0⟩ := Kd.at_int HR0_3.out x40_3 p108 q108
                                    cases e108
                                    replace hx108_0 := (HB.out.cell (World.block_lt_of_cell? w _ hx108_0)).trans hx108_0
                                    replace p108 := eq_true p108
                                    replace q108 := eq_true q108
                                    go_wp2
                                    go_roundg k3
                                    case measure => have := HJ3.out; have := HJ18.out; have := HK3.out; omega
                                    case rel => exact ⟨(wrap64 (x40_3 + 1)), (by first | rfl | (simp; done) | (simp [*]; done)), H', ⟨by have := HJ3.out; have := HJ18.out; have := HK3.out; omega⟩, ⟨by (with_reducible repeat (first | refine blk_drewN ?_ _ | refine blk_drew ?_ | refine blk_alloc ?_ _)); exact BK105.out⟩, ⟨by repeat (first | (with_reducible first | exact HB.out | apply below_alloc | apply pw_below_drewN | apply below_drew1 | refine below_set ?_ GE105.out) | exact HB.out)⟩⟩
                                  · rw [if_neg c36] at H
                                    have c36b0 : ((rd l0_2 x40_3) == 0) = false := beq_eq_false_iff_ne.mpr c36
                                    have c36b1 : ((rd l0_2 x40_3) != 0) = true := bne_iff_ne.mpr c36
                                    obtain rfl := Option.some.inj H
                                    have p107 : 0 ≤ (x40_3 : Int) := of_decide_eq_true (by first | (with_reducible assumption) | assumption)
                                    have q107 : x40_3 < (l0_2.length : Int) := of_decide_eq_true (by first | (with_reducible assumption) | assumption)
                                    obtain ⟨ad107, e107, hx107_0⟩ := Kd.at_int HR0_2.out x40_3 p107 q107
                                    cases e107
                                    replace hx107_0 := (HB.out.cell (World.block_lt_of_cell? w _ hx107_0)).trans hx107_0
                                    replace p107 := eq_true p107
                                    replace q107 := eq_true q107
                                    have hcz38_0 : wr.cell? ⟨gb105, 0, none⟩ = some (.int .i64 a0_0) := (blk_cell BK105.out 0).trans rfl
                                    have hcz38_1 : wr.cell? ⟨gb105, 1, none⟩ = some (.int .i64 a0_1) := (blk_cell BK105.out 1).trans rfl
                                    have hcz38_2 : wr.cell? ⟨gb105, 2, none⟩ = some (.slice (some ad107) l0_2.length c0_2) := (blk_cell BK105.out 2).trans rfl
                                    have hcz38_3 : wr.cell? ⟨gb105, 3, none⟩ = some (.slice A0_3 l0_3.length c0_3) := (blk_cell BK105.out 3).trans rfl
                                    have hfz38_0 := blk_frozen BK105.out 0
                                    have hfz38_1 := blk_frozen BK105.out 1
                                    have hfz38_2 := blk_frozen BK105.out 2
                                    have hfz38_3 := blk_frozen BK105.out 3
                                    have p108 : 0 ≤ (x40_3 : Int) := of_decide_eq_true (by first | (with_reducible assumption) | assumption)
                                    have q108 : x40_3 < (l0_3.length : Int) := of_decide_eq_true (by first | (with_reducible assumption) | assumption)
                                    obtain ⟨ad108, e108, hx108_0⟩ := Kd.at_int HR0_3.out x40_3 p108 q108
                                    cases e108
                                    replace hx108_0 := (HB.out.cell (World.block_lt_of_cell? w _ hx108_0)).trans hx108_0
                                    replace p108 := eq_true p108
                                    replace q108 := eq_true q108
                                    go_wp2
                                    go_ret
                                    exact ⟨by first | rfl | (simp [errW_none, errW_some] <;> rfl) | (simp [*, errW_none, errW_some] <;> rfl), by repeat (first | (with_reducible first | exact HB.out | apply below_alloc | apply pw_below_drewN | apply below_drew1 | refine below_set ?_ GE105.out) | exact HB.out)⟩
                                · rw [if_neg c35] at H
                                  have c35b0 : decide (0 ≤ (rd l0_3 x40_3)) = false := decide_eq_false c35
                                  clear c35
                                  have H' := Aside0.mk H
                                  clear H
                                  have p107 : 0 ≤ (x40_3 : Int) := of_decide_eq_true (by first | (with_reducible assumption) | assumption)
                                  have q107 : x40_3 < (l0_2.length : Int) := of_decide_eq_true (by first | (with_reducible assumption) | assumption)
                                  obtain ⟨ad107, e107, hx107_0⟩ := Kd.at_int HR0_2.out x40_3 p107 q107
                                  cases e107
                                  replace hx107_0 := (HB.out.cell (World.block_lt_of_cell? w _ hx107_0)).trans hx107_0
                                  replace p107 := eq_true p107
                                  replace q107 := eq_true q107
                                  have hcz39_0 : wr.cell? ⟨gb105, 0, none⟩ = some (.int .i64 a0_0) := (blk_cell BK105.out 0).trans rfl
                                  have hcz39_1 : wr.cell? ⟨gb105, 1, none⟩ = some (.int .i64 a0_1) := (blk_cell BK105.out 1).trans rfl
                                  have hcz39_2 : wr.cell? ⟨gb105, 2, none⟩ = some (.slice (some ad107) l0_2.length c0_2) := (blk_cell BK105.out 2).trans rfl
                                  have hcz39_3 : wr.cell? ⟨gb105, 3, none⟩ = some (.slice A0_3 l0_3.length c0_3) := (blk_cell BK105.out 3).trans rfl
                                  have hfz39_0 := blk_frozen BK105.out 0
                                  have hfz39_1 := blk_frozen BK105.out 1
                                  have hfz39_2 := blk_frozen BK105.out 2
                                  have hfz39_3 := blk_frozen BK105.out 3
                                  have p108 : 0 ≤ (x40_3 : Int) := of_decide_eq_true (by first | (with_reducible assumption) | assumption)
                                  have q108 : x40_3 < (l0_3.length : Int) := of_decide_eq_true (by first | (with_reducible assumption) | assumption)
                                  obtain ⟨ad108, e108, hx108_0⟩ := Kd.at_int HR0_3.out x40_3 p108 q108
                                  cases e108
                                  replace hx108_0 := (HB.out.cell (World.block_lt_of_cell? w _ hx108_0)).trans hx108_0
                                  replace p108 := eq_true p108
                                  replace q108 := eq_true q108
                                  go_wp2
                                  go_roundg k3
                                  case measure => have := HJ3.out; have := HJ18.out; have := HK3.out; omega
                                  case rel => exact ⟨(wrap64 (x40_3 + 1)), (by first | rfl | (simp; done) | (simp [*]; done)), H', ⟨by have := HJ3.out; have := HJ18.out; have := HK3.out; omega⟩, ⟨by (with_reducible repeat (first | refine blk_drewN ?_ _ | refine blk_drew ?_ | refine blk_alloc ?_ _)); exact BK105.out⟩, ⟨by repeat (first | (with_reducible first | exact HB.out | apply below_alloc | apply pw_below_drewN | apply below_drew1 | refine below_set ?_ GE105.out) | exact HB.out)⟩⟩
                      · rw [if_neg c26] at H
                        exact absurd H (by simp)
                    · rw [if_neg c25] at H
                      exact absurd H (by simp)
                  · rw [if_neg c24] at H
                    exact absurd H (by simp)
                · rw [if_neg c23] at H
                  have c23b0 : decide (x40_3 < (l0_2.length : Int)) = false := decide_eq_false c23
                  clear c23
                  obtain rfl := Option.some.inj H
                  go_wp2
                  go_ret
                  exact ⟨by first | rfl | (simp [errW_none, errW_some] <;> rfl) | (simp [*, errW_none, errW_some] <;> rfl), by repeat (first | (with_reducible first | exact HB.out | apply below_alloc | apply pw_below_drewN | apply below_drew1 | refine below_set ?_ GE105.out) | exact HB.out)⟩

end Go.Proofs.Ytfhekkoibmlmpaa.Q
