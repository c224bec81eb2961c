/- Texts of this claim's proof, laid behind each other by a program of ours, without what the proof does not reach: What an argument reads as, kind by kind: numbers, strings, slices, structs, one within the other; Words for states that lie in a block and hold a row of their own: what a call moves; Words for rows of whole numbers of one's own; A region that draws, in which one operation makes a block and all others but the last ones are still: one walk, in the order of the text; Plain words of layer 1: rows of bits, and their bytes; Contracts of layer 1, proved by hand: a writer's bit; Plain words of layer 1: the bits of a text, and what a reader gives; Contracts of layer 1, proved by hand: a reader's Of, At, Left, peek, Get; Contracts of layer 1, proved by hand: a reader's Get; Printed by a program of ours (pp.sh), partly over contracts proved by hand; Printed by a program of ours (pp.sh), partly over contracts proved by hand; Contracts of layer 13, proved by hand: Info -/
import Derived.Test.YtgihacaegmpggaaRows
import Derived.WalkKit
import Derived.ProofKit
import Derived.OpenShut
import Derived.ShutString
import Derived.ChangeOld
import Derived.Below
import Derived.ChangeArms
import Derived.SizedLaws
import Derived.Deep.Slices
import Derived.Deep.Fields
import Derived.Test.YtgihacaegmpggaaProg
import Derived.KernelRfl
import Derived.BigRegion
import Derived.Deep.LoopGhost
import Derived.Deep.Draws
import Derived.Deep.QuietTactic
import Derived.BigQuiet
import Derived.Deep.RegionLaw
import Derived.Deep.RegionHeld3
import Derived.StillTailTactics
import Derived.Lib.SliceRun
import Derived.Carry
import Derived.Deep.DeepCutAuto
import Derived.Laws.BytesArg
import Derived.StillTail
import Derived.Deep.AppendLies
import Derived.Maps.AppendAt
import Derived.OwnWalk
import Derived.Laws.MakeOwn
import Derived.Laws.OwnMore
import Derived.Deep.OwnRows
import Derived.Tactics
import Derived.Lib.ConvBytes
import Derived.Laws.Slices
import Derived.RowKit3
import Derived.WideLaws
import Derived.Deep.CutBlock
import Derived.Laws.Rows
import Derived.Lib.AppendStr
import Derived.ArgAppend
import Derived.Laws.IdiomCopy
import Derived.OrdersHeld
import Derived.Laws.BitsLemmas
import Derived.RowKit
import Derived.Laws.CopyOwn
import Derived.Laws.ResultCell
import Derived.Test.YtgihacaegmpggaaBldWApart
import Derived.Test.YtgihacaegmpggaaBldWEqStruct
import Derived.Test.YtgihacaegmpggaaBldWFoot
import Derived.Test.YtgihacaegmpggaaBldWGuard
import Derived.Test.YtgihacaegmpggaaBldWInv
import Derived.Test.YtgihacaegmpggaaBldWKept
import Derived.Test.YtgihacaegmpggaaBldWLast
import Derived.Test.YtgihacaegmpggaaBldWMore
import Derived.Test.YtgihacaegmpggaaBldWN
import Derived.Test.YtgihacaegmpggaaBldWRepsOne
import Derived.Test.YtgihacaegmpggaaBldWShare
import Derived.Test.YtgihacaegmpggaaBldWTab
import Derived.Test.YtgihacaegmpggaaBldWWords
/- What an argument reads as, kind by kind: numbers, strings, slices, structs, one within the other. -/
namespace Go.Proofs.Ytgihacaegmpggaa.Op
open Go.ChangeShapes Go.WideShapes Go.ChangeAt Go.RowKit Go.Deep Go.Proofs.YtgihacaegmpggaaW.PrintWords
set_option linter.unusedVariables false
set_option linter.unusedSimpArgs false

/-- A kind is read off an argument of a type: R holds of what is read; G, where no string and no slice is too great; z: no more than its bulk. -/
def Opens {α : Type} (P : Program) (d : Kd α) (t : TypeId) (R G : α → Prop) (z : α → Nat) : Prop :=
  ∀ (H : Type) (enc : TypeId × Value → H) (w : World) (base : Nat) (spare : Nat → Bool) (held : Bool) (fuel : Nat) (cs : List Value) (x : DataW H × List MemPlace),
    DataW.trod enc P w base spare held fuel t cs = some x → ∃ y, d.K w y cs ∧ R y ∧ ((∀ n ∈ x.1.weights P t, n ≤ reachBytes) → G y) ∧ z y ≤ Rows.uptoBulk x.1
theorem op_int {P : Program} {t : TypeId} {k : IntKind} (lo hi : Int) (ht : P.underlying t = some (.int k)) (hs : ∀ n : Int, (Lit.int k n).wf = true → lo ≤ n ∧ n ≤ hi) : Opens P (Kd.int k) t (fun n => lo ≤ n ∧ n ≤ hi) (fun _ => True) (fun _ => 1) := by
  intro H enc w base spare held fuel cs x h
  obtain ⟨n, rfl, rfl, hw⟩ := DataW.trod_int ht h
  exact ⟨n, rfl, hs n hw, fun _ => trivial, by simp [Rows.uptoBulk]⟩
theorem op_string {P : Program} {t : TypeId} (ht : P.underlying t = some .string) : Opens P Kd.string t (fun s => s.size ≤ 9223372036854775807) (fun s => s.size ≤ 140737488351232) (fun s => s.size + 1) := by
  intro H enc w base spare held fuel cs x h
  obtain ⟨s, rfl, rfl, hm⟩ := DataW.trod_string ht h
  have hl : s.data.toList.length = s.size := Array.length_toList
  refine ⟨s, rfl, hm, fun hw => ?_, by simp only [Rows.uptoBulk]; omega⟩
  have := hw s.data.toList.length (by simp [DataW.weights])
  rw [hl] at this
  exact this
theorem bulkAll_ge {H : Type} : ∀ (ds : List (DataW H)) (f : Nat → Nat), (∀ i (h : i < ds.length), f i ≤ Rows.uptoBulk ds[i]) → ((List.range ds.length).map f).sum ≤ Rows.uptoBulkAll ds
  | [], f, h => by simp [Rows.uptoBulkAll]
  | d :: r, f, h => by
    have h0 := h 0 (by simp)
    have ih := bulkAll_ge r (fun i => f (i + 1)) (fun i hi => h (i + 1) (by simpa using hi))
    have e : ((List.range (d :: r).length).map f).sum = f 0 + ((List.range r.length).map fun i => f (i + 1)).sum := by
      rw [List.length_cons, List.range_succ_eq_map, List.map_cons, List.sum_cons, List.map_map]
      rfl
    rw [e]
    simp only [Rows.uptoBulkAll]
    have h0' : f 0 ≤ Rows.uptoBulk d := h0
    omega
theorem weightsAll_mem {H : Type} {P : Program} {e : TypeId} {d : DataW H} {n : Nat} : ∀ {l : List (DataW H)}, d ∈ l → n ∈ d.weights P e → n ∈ DataW.weightsAll P e l
  | [], h, _ => by cases h
  | a :: r, h, hn => by
    simp only [DataW.weightsAll, List.mem_append]
    rcases List.mem_cons.1 h with rfl | h
    · exact .inl hn
    · exact .inr (weightsAll_mem h hn)
theorem op_choose {α : Type} {n : Nat} {p : Nat → α → Prop} [Nonempty α] (h : ∀ i, i < n → ∃ y, p i y) : ∃ f : Nat → α, ∀ i, i < n → p i (f i) := by
  refine ⟨fun i => if hi : i < n then (h i hi).choose else Classical.choice inferInstance, fun i hi => ?_⟩
  simp only [hi, dif_pos]
  exact (h i hi).choose_spec
theorem op_slice {α : Type} [Nonempty α] {P : Program} {d : Kd α} {t e : TypeId} {R G : α → Prop} {z : α → Nat} (B : Nat) (ht : P.underlying t = some (.slice e)) (he : P.cellsOf e = d.sz) (hB : P.bytesOf e = B) (h : Opens P d e R G z) :
    Opens P (Kd.slice e d) t (fun ys => ys.length ≤ 9223372036854775807 ∧ ∀ y ∈ ys, R y) (fun ys => ys.length * B ≤ 140737488351232 ∧ ∀ y ∈ ys, G y) (fun ys => (ys.map z).sum + 1) := by
  intro H enc w base spare held fuel cs x hx
  rcases DataW.trod_slice ht hx with ⟨rfl, rfl⟩ | ⟨a, len, cap, elems, rest, n, rfl, rfl, rfl, hb, hlc, hcm, hlen, hel, _, _⟩
  · exact ⟨[], ⟨none, 0, rfl, Nat.le_refl _, rfl, Nat.zero_le _, fun h0 => absurd h0 (Nat.lt_irrefl _)⟩, ⟨Nat.zero_le _, by simp⟩, fun _ => ⟨by simp, by simp⟩, by simp [Rows.uptoBulk]⟩
  · have hm : len ≤ 9223372036854775807 := Nat.le_trans hlc hcm
    have each : ∀ i, i < len → ∃ y, ∃ cs' x', w.cells? base (a.add (i * P.cellsOf e)) (P.cellsOf e) = some cs' ∧ elems[i]? = some x' ∧ d.K w y cs' ∧ R y ∧ ((∀ n ∈ x'.1.weights P e, n ≤ reachBytes) → G y) ∧ z y ≤ Rows.uptoBulk x'.1 := fun i hi => by
      have h1 := hel i hi
      rw [List.getElem?_eq_getElem (by omega)] at h1
      obtain ⟨cs', h2, h3⟩ := Option.bind_eq_some_iff.1 h1
      obtain ⟨y, h4⟩ := h H enc w base spare held n cs' _ h3
      exact ⟨y, cs', _, h2, List.getElem?_eq_getElem (by omega), h4⟩
    obtain ⟨Y, hY⟩ := op_choose each
    have hl : ((List.range len).map Y).length = len := by simp
    have hmem : ∀ y ∈ (List.range len).map Y, ∃ i, i < len ∧ y = Y i := fun y hy => by
      obtain ⟨i, hi, rfl⟩ := List.mem_map.1 hy
      exact ⟨i, List.mem_range.1 hi, rfl⟩
    refine ⟨(List.range len).map Y, ⟨some a, cap, by rw [hl], by rw [hl]; exact hlc, rfl, by rw [hl]; exact hm, fun _ => ⟨a, rfl, fun j p hp => ?_⟩⟩, ⟨by rw [hl]; exact hm, fun y hy => ?_⟩, fun hw => ⟨?_, fun y hy => ?_⟩, ?_⟩
    · have hj : j < len := by
        rcases Nat.lt_or_ge j len with h0 | h0
        · exact h0
        · rw [List.getElem?_eq_none (by rw [hl]; exact h0)] at hp
          cases hp
      have hp' : p = Y j := by
        rw [List.getElem?_eq_getElem (by rw [hl]; exact hj)] at hp
        simpa using (Option.some.inj hp).symm
      subst hp'
      obtain ⟨cs', x', h2, _, hK, _⟩ := hY j hj
      obtain ⟨_, hcl, hcell⟩ := World.cells?_some h2
      refine ⟨cs', d.K_len hK, hK, fun i u hu => ?_⟩
      have hi : i < cs'.length := (List.getElem?_eq_some_iff.1 hu).1
      have hc := hcell i (by omega)
      rw [Go.Deep.add_add, he] at hc
      rw [hc, ← hu]
    · obtain ⟨i, hi, rfl⟩ := hmem y hy
      obtain ⟨cs', x', _, _, _, hR, _⟩ := hY i hi
      exact hR
    · have := hw ((elems.length + rest.length) * P.bytesOf e) (by simp [DataW.weights, ht])
      rw [hB] at this
      rw [hl, ← hlen]
      exact Nat.le_trans (Nat.mul_le_mul_right _ (by omega)) this
    · obtain ⟨i, hi, rfl⟩ := hmem y hy
      obtain ⟨cs', x', _, hx', _, _, hG, _⟩ := hY i hi
      refine hG (fun n hn => hw n ?_)
      simp only [DataW.weights, ht, List.mem_cons, List.mem_append]
      exact .inr (.inl (weightsAll_mem (List.mem_map.2 ⟨x', List.mem_of_getElem? hx', rfl⟩) hn))
    · have := bulkAll_ge (elems.map (·.1)) (fun i => z (Y i)) (fun i hi => by
        have hi' : i < len := by rw [List.length_map] at hi; omega
        obtain ⟨cs', x', _, hx', _, _, _, hz⟩ := hY i hi'
        rw [List.getElem?_eq_getElem (by omega)] at hx'
        have hx2 := Option.some.inj hx'
        rw [List.getElem_map, hx2]
        exact hz)
      rw [List.length_map, hlen] at this
      simp only [Rows.uptoBulk, List.map_map]
      have e : ((List.range len).map (z ∘ Y)).sum = ((List.range len).map fun i => z (Y i)).sum := rfl
      omega

/-- The same of the fields of a struct, one behind the other. -/
def OpensF {α : Type} (P : Program) (d : Kd α) (ts : List TypeId) (R G : α → Prop) (z : α → Nat) : Prop :=
  ∀ (H : Type) (enc : TypeId × Value → H) (w : World) (base : Nat) (spare : Nat → Bool) (held : Bool) (fuel : Nat) (cs : List Value) (xs : List (DataW H × List MemPlace)),
    xs.length = ts.length → cs.length = (ts.map P.cellsOf).sum → (∀ i t, ts[i]? = some t → DataW.trod enc P w base spare held fuel t ((cs.drop ((ts.take i).map P.cellsOf).sum).take (P.cellsOf t)) = xs[i]?) →
    ∃ y, d.K w y cs ∧ R y ∧ ((∀ n ∈ DataW.weightsEach P ts (xs.map (·.1)), n ≤ reachBytes) → G y) ∧ z y ≤ Rows.uptoBulkAll (xs.map (·.1))
theorem opF_one {α : Type} {P : Program} {d : Kd α} {t : TypeId} {R G : α → Prop} {z : α → Nat} (h : Opens P d t R G z) : OpensF P d [t] R G z := by
  intro H enc w base spare held fuel cs xs hx hc ht
  have h0 := ht 0 t rfl
  obtain ⟨x, rfl⟩ : ∃ x, xs = [x] := by
    match xs, hx with
    | [x], _ => exact ⟨x, rfl⟩
  have hcs : (cs.drop (([t].take 0).map P.cellsOf).sum).take (P.cellsOf t) = cs := by
    simp only [List.map_cons, List.map_nil, List.sum_cons, List.sum_nil, Nat.add_zero] at hc
    simp only [List.take_zero, List.map_nil, List.sum_nil, List.drop_zero]
    rw [← hc, List.take_length]
  rw [hcs] at h0
  obtain ⟨y, h1, h2, h3, h4⟩ := h H enc w base spare held fuel cs x h0
  refine ⟨y, h1, h2, fun hw => h3 (fun n hn => hw n ?_), ?_⟩
  · simp [DataW.weightsEach, hn]
  · simp only [List.map_cons, List.map_nil, Rows.uptoBulkAll]
    omega
theorem opF_cons {α β : Type} {P : Program} {a : Kd α} {b : Kd β} {t : TypeId} {ts : List TypeId} {Ra Ga : α → Prop} {za : α → Nat} {Rb Gb : β → Prop} {zb : β → Nat} (h : Opens P a t Ra Ga za) (hs : OpensF P b ts Rb Gb zb) :
    OpensF P (Kd.pair a b) (t :: ts) (fun y => Ra y.1 ∧ Rb y.2) (fun y => Ga y.1 ∧ Gb y.2) (fun y => za y.1 + zb y.2) := by
  intro H enc w base spare held fuel cs xs hx hc ht
  obtain ⟨x, xs', rfl⟩ : ∃ x r, xs = x :: r := by
    match xs, hx with
    | x :: r, _ => exact ⟨x, r, rfl⟩
  have h0 := ht 0 t rfl
  have hcs : (cs.drop (((t :: ts).take 0).map P.cellsOf).sum).take (P.cellsOf t) = cs.take (P.cellsOf t) := by simp
  rw [hcs] at h0
  obtain ⟨y, h1, h2, h3, h4⟩ := h H enc w base spare held fuel _ x h0
  simp only [List.map_cons, List.sum_cons] at hc
  obtain ⟨y2, k1, k2, k3, k4⟩ := hs H enc w base spare held fuel (cs.drop (P.cellsOf t)) xs' (by simpa using hx) (by rw [List.length_drop]; omega) (fun i u hi => by
    have := ht (i + 1) u (by simpa using hi)
    simp only [List.take_succ_cons, List.map_cons, List.sum_cons, List.getElem?_cons_succ] at this
    rw [List.drop_drop]
    exact this)
  refine ⟨(y, y2), ⟨cs.take (P.cellsOf t), cs.drop (P.cellsOf t), (List.take_append_drop _ _).symm, h1, k1⟩, ⟨h2, k2⟩, fun hw => ⟨h3 (fun n hn => hw n ?_), k3 (fun n hn => hw n ?_)⟩, ?_⟩
  · simp only [List.map_cons, DataW.weightsEach, List.mem_append]
    exact .inl hn
  · simp only [List.map_cons, DataW.weightsEach, List.mem_append]
    exact .inr hn
  · simp only [List.map_cons, Rows.uptoBulkAll]
    omega
/-- The fields lie one behind the other. -/
def laidF (P : Program) (t : TypeId) (fs : Array Field) : Bool :=
  (P.cellsOf t == ((fs.toList.map (·.type)).map P.cellsOf).sum) && (List.range fs.size).all fun i => match fs[i]? with | some f => f.offset == (((fs.toList.map (·.type)).take i).map P.cellsOf).sum | none => true
theorem op_struct {α : Type} {P : Program} {d : Kd α} {t : TypeId} {fs : Array Field} {ts : List TypeId} {R G : α → Prop} {z : α → Nat} (ht : P.underlying t = some (.struct fs)) (hl : laidF P t fs = true) (hts : fs.toList.map (·.type) = ts) (h : OpensF P d ts R G z) :
    Opens P d t R G (fun y => z y + 1) := by
  intro H enc w base spare held fuel cs x hx
  obtain ⟨xs, n, rfl, rfl, hcl, hxl, hf⟩ := DataW.trod_struct ht hx
  simp only [laidF, Bool.and_eq_true, beq_iff_eq, List.all_eq_true, List.mem_range] at hl
  obtain ⟨hl1, hl2⟩ := hl
  subst hts
  have hfl : fs.toList.length = fs.size := Array.length_toList
  obtain ⟨y, h1, h2, h3, h4⟩ := h H enc w base spare held n cs xs (by rw [hxl, List.length_map, hfl]) (by rw [hcl, hl1]) (fun i u hi => by
    rw [List.getElem?_map] at hi
    obtain ⟨f, hf1, hf2⟩ := Option.map_eq_some_iff.1 hi
    have hf3 : fs[i]? = some f := by rw [← hf1, Array.getElem?_toList]
    have hi' : i < fs.size := (Array.getElem?_eq_some_iff.1 hf3).1
    have := hl2 i hi'
    rw [hf3] at this
    have e := hf i f hf3
    rw [beq_iff_eq.1 this, hf2] at e
    exact e)
  refine ⟨y, h1, h2, fun hw => h3 (fun n hn => hw n ?_), ?_⟩
  · simp only [DataW.weights, ht]
    exact hn
  · simp only [Rows.uptoBulk]
    omega
theorem op_iso {α β : Type} {P : Program} {d : Kd α} {t : TypeId} {R G : α → Prop} {z : α → Nat} (f : β → α) (g : α → β) (hg : ∀ a, f (g a) = a) (h : Opens P d t R G z) : Opens P (Kd.iso d f) t (fun y => R (f y)) (fun y => G (f y)) (fun y => z (f y)) := by
  intro H enc w base spare held fuel cs x hx
  obtain ⟨y, h1, h2, h3, h4⟩ := h H enc w base spare held fuel cs x hx
  refine ⟨g y, ?_, ?_, fun hw => ?_, ?_⟩
  · show d.K w (f (g y)) cs
    rw [hg]
    exact h1
  · show R (f (g y))
    rw [hg]
    exact h2
  · show G (f (g y))
    rw [hg]
    exact h3 hw
  · show z (f (g y)) ≤ _
    rw [hg]
    exact h4
end Go.Proofs.Ytgihacaegmpggaa.Op

/- Words for states that lie in a block and hold a row of their own: what a call moves. -/
namespace Go.Proofs.Ytgihacaegmpggaa.Hand
open Go.RowKit Go.Proofs.YtgihacaegmpggaaW.PrintWords Go.Proofs.YtgihacaegmpggaaW.PrintLast Go.Proofs.YtgihacaegmpggaaW.PrintMore
set_option linter.unusedVariables false
set_option linter.unusedSimpArgs false

/-- The lowest bits of a number. -/
theorem and_mask_u64 (k : Nat) (hk : k ≤ 64) (x m : Int) (h0 : 0 ≤ x) (h1 : x < 18446744073709551616) (hm : m = 2 ^ k - 1) : Go.bits .and .u64 x m = x % 2 ^ k := by
  have e : Go.bits .and .u64 x m = IntKind.u64.wrap ((BitVec.ofInt 64 x &&& BitVec.ofInt 64 m).toNat : Int) := rfl
  have hp : (2 : Int) ^ k = ((2 ^ k : Nat) : Int) := by simp
  have hle : 2 ^ k ≤ 2 ^ 64 := Nat.pow_le_pow_right (by decide) hk
  have hpos := Nat.two_pow_pos k
  have e1 : (BitVec.ofInt 64 x).toNat = x.toNat := by rw [BitVec.toNat_ofInt]; omega
  have e2 : (BitVec.ofInt 64 m).toNat = 2 ^ k - 1 := by rw [BitVec.toNat_ofInt, hm, hp]; omega
  rw [e, BitVec.toNat_and, e1, e2, Nat.and_two_pow_sub_one_eq_mod, hp]
  have hlt : x.toNat % 2 ^ k < 2 ^ k := Nat.mod_lt _ hpos
  have e3 : ((x.toNat % 2 ^ k : Nat) : Int) = x % ((2 ^ k : Nat) : Int) := by
    rw [Int.natCast_emod, Int.toNat_of_nonneg h0]
  have e4 : IntKind.u64.wrap ((x.toNat % 2 ^ k : Nat) : Int) = ((x.toNat % 2 ^ k : Nat) : Int) := by
    simp only [IntKind.wrap, IntKind.bits, IntKind.signed]
    simp
    omega
  rw [e4, e3]
theorem and_mask_i64 (k : Nat) (hk : k ≤ 62) (x m : Int) (h0 : 0 ≤ x) (h1 : x < 9223372036854775808) (hm : m = 2 ^ k - 1) : Go.bits .and .i64 x m = x % 2 ^ k := by
  have e : Go.bits .and .i64 x m = IntKind.i64.wrap ((BitVec.ofInt 64 x &&& BitVec.ofInt 64 m).toNat : Int) := rfl
  have hp : (2 : Int) ^ k = ((2 ^ k : Nat) : Int) := by simp
  have hle : 2 ^ k ≤ 2 ^ 62 := Nat.pow_le_pow_right (by decide) hk
  have hpos := Nat.two_pow_pos k
  have e1 : (BitVec.ofInt 64 x).toNat = x.toNat := by rw [BitVec.toNat_ofInt]; omega
  have e2 : (BitVec.ofInt 64 m).toNat = 2 ^ k - 1 := by rw [BitVec.toNat_ofInt, hm, hp]; omega
  rw [e, BitVec.toNat_and, e1, e2, Nat.and_two_pow_sub_one_eq_mod, hp]
  have hlt : x.toNat % 2 ^ k < 2 ^ k := Nat.mod_lt _ hpos
  have e3 : ((x.toNat % 2 ^ k : Nat) : Int) = x % ((2 ^ k : Nat) : Int) := by
    rw [Int.natCast_emod, Int.toNat_of_nonneg h0]
  have e4 : IntKind.i64.wrap ((x.toNat % 2 ^ k : Nat) : Int) = ((x.toNat % 2 ^ k : Nat) : Int) := by
    rw [IntKind.wrap_i64]
    omega
  rw [e4, e3]
theorem u64_wrap (x : Int) : IntKind.u64.wrap x = x % 18446744073709551616 := by simp [IntKind.wrap, IntKind.bits, IntKind.signed]
theorem wrap_id (x : Int) (h : -9223372036854775808 ≤ x) (h2 : x ≤ 9223372036854775807) : wrap64 x = x := by unfold wrap64; omega
/-- From w on to w', a state in block g whose row was v and is v': nothing else has been turned. -/
structure Moved (B g : Nat) (w : World) (v : Value) (w' : World) (v' : Value) : Prop where
  below : Below B w w'
  kept : Kept w w' (fun k => k = g ∨ v.ownBlock = some k)
  own : ∀ k, v'.ownBlock = some k → v.ownBlock = some k ∨ w.heap.size ≤ k
theorem Moved.refl (B g : Nat) (w : World) (v : Value) : Moved B g w v w v := ⟨Below.refl _ _, Kept.refl _ _, fun _ h => .inl h⟩
theorem Moved.trans {B g : Nat} {w w1 w2 : World} {v v1 v2 : Value} (h : Moved B g w v w1 v1) (k : Moved B g w1 v1 w2 v2) : Moved B g w v w2 v2 :=
  ⟨h.below.trans k.below, h.kept.then_ k.kept (fun i hi => by
    rcases hi with rfl | hi
    · exact .inl (.inl rfl)
    · exact (h.own i hi).imp .inr id), fun i hi => (k.own i hi).elim (fun h1 => h.own i h1) (fun h1 => .inr (Nat.le_trans h.kept.1 h1))⟩
theorem Moved.new {B g : Nat} {w w1 w2 : World} {v v1 : Value} (h : Moved B g w v w1 v1) (k : Below w1.heap.size w1 w2) (hB : B ≤ w1.heap.size) : Moved B g w v w2 v1 :=
  ⟨h.below.trans (k.mono hB), h.kept.below k, h.own⟩
theorem Moved.drew {B g : Nat} {w w1 : World} {v v1 : Value} (h : Moved B g w v w1 v1) : Moved B g w v w1.drew v1 := ⟨below_drew h.below, h.kept.drew, h.own⟩
theorem Moved.drewN {B g : Nat} {w w1 : World} {v v1 : Value} (h : Moved B g w v w1 v1) (m : Nat) : Moved B g w v (w1.drewN m) v1 := ⟨pw_below_drewN h.below m, h.kept.drewN m, h.own⟩
theorem Moved.set {B g : Nat} {w w1 : World} {v v1 : Value} (h : Moved B g w v w1 v1) (hB : B ≤ g) (j : Nat) (u : Value) : Moved B g w v (w1.setCell ⟨g, j, none⟩ u) v1 :=
  ⟨h.below.setCell hB u, h.kept.setCell (p := ⟨g, j, none⟩) (.inl (.inl rfl)) u, h.own⟩
theorem Moved.app {B g : Nat} {w W w1 : World} {v u u1 : Value} (h : Moved B g w v W u) (hg : W.grownBy w1 u.ownBlock) (hb : Below B w w1) (ho : u1.ownBlock = u.ownBlock ∨ ∃ b, u1.ownBlock = some b ∧ W.heap.size ≤ b) : Moved B g w v w1 u1 :=
  ⟨hb, h.kept.of_grown hg (fun k hk => (h.own k hk).imp .inr id), fun k hk => by
    rcases ho with e | ⟨b, e, hle⟩
    · exact h.own k (e ▸ hk)
    · rw [hk] at e
      injection e with e
      subst e
      exact .inr (Nat.le_trans h.kept.1 hle)⟩
/-- Another state: its block and its row are none of what was turned. -/
def Apart (g : Nat) (v : Value) (g2 : Nat) (v2 : Value) : Prop := g ≠ g2 ∧ v2.ownBlock ≠ some g ∧ v.ownBlock ≠ some g2 ∧ ∀ k, v.ownBlock = some k → v2.ownBlock ≠ some k
theorem Apart.symm {g g2 : Nat} {v v2 : Value} (h : Apart g v g2 v2) : Apart g2 v2 g v := ⟨h.1.symm, h.2.2.1, h.2.1, fun k hk hk2 => h.2.2.2 k hk2 hk⟩
theorem Apart.block {B g g2 : Nat} {w w' : World} {v v' v2 : Value} {o : Obj} (h : Apart g v g2 v2) (hm : Moved B g w v w' v') (hb : w.heap[g2]? = some o) : w'.heap[g2]? = some o :=
  blk_kept hb hm.kept (fun hk => hk.elim (fun e => h.1 e.symm) h.2.2.1)
theorem Apart.row {α : Type} {d : Kd α} {e base B g g2 : Nat} {w w' : World} {v v' v2 : Value} {xs : List α} (h : Apart g v g2 v2) (hm : Moved B g w v w' v') (hr : d.R e w base (fun k => v2.ownBlock = some k) v2 xs) : d.R e w' base (fun k => v2.ownBlock = some k) v2 xs :=
  Kd.R_kept hr hm.kept (fun k hk hs => hs.elim (fun e => h.2.1 (e ▸ hk)) (fun h1 => h.2.2.2 k h1 hk))
/-- A row of bytes of one's own. -/
def BytesAt (w : World) (B : Nat) (v : Value) (xs : List Int) : Prop := Kd.R (Kd.int .u8) 5 w B (fun k => v.ownBlock = some k) v xs
theorem BytesAt.of {w : World} {B : Nat} {ok : Nat → Prop} {v : Value} {xs : List Int} (h : Kd.R (Kd.int .u8) 5 w B ok v xs) : BytesAt w B v xs := by
  obtain ⟨h0, inner, hown, hr⟩ := h
  exact ⟨fun k hk => hk, inner, hown, hr.imp_ (fun _ _ hm => hm)⟩
theorem BytesAt.all {w : World} {B : Nat} {v : Value} {xs : List Int} (h : BytesAt w B v xs) : Kd.R (Kd.int .u8) 5 w B (fun _ => True) v xs := Kd.R_mono h (fun _ _ => trivial)
theorem BytesAt.nil (w : World) (B : Nat) : BytesAt w B (.slice none 0 0) [] := Kd.R_nil _ _ _ _ _
theorem BytesAt.below {w w' : World} {B : Nat} {v : Value} {xs : List Int} (h : BytesAt w B v xs) (hb : Below w.heap.size w w') : BytesAt w' B v xs := Kd.R_below h hb
theorem BytesAt.set {w : World} {B : Nat} {v : Value} {xs : List Int} (h : BytesAt w B v xs) {g t : Nat} {cells : Array Value} (hb : w.heap[g]? = some (.cells cells t (0, 0))) (ht : t ≠ 5) (j : Nat) (u : Value) : BytesAt (w.setCell ⟨g, j, none⟩ u) B v xs :=
  .of (Kd.R_set h.all hb (fun q hq => by
    have : q = 5 := by simpa [Kd.int, Kd.scalar] using hq
    rw [this]; exact fun e => ht e.symm) j u)
theorem BytesAt.lt {w : World} {B : Nat} {v : Value} {xs : List Int} (h : BytesAt w B v xs) : ∀ k, v.ownBlock = some k → k < w.heap.size := fun k hk => Kd.R_lt h k hk
theorem BytesAt.slice {w : World} {B : Nat} {v : Value} {xs : List Int} {y : Int} (h : BytesAt w B v (xs ++ [y])) : ∃ A c, v = .slice A (xs.length + 1) c := by
  obtain ⟨A, c, e⟩ := Kd.R_slice h
  rw [List.length_append] at e
  exact ⟨A, c, e⟩
theorem BytesAt.text {w : World} {B : Nat} {v : Value} {xs : List Int} (h : BytesAt w B v xs) : (convert 68 9 v).run Try.prog w = .ok (.string (strOfNums xs)) w := by
  obtain ⟨A, c, rfl, hl, hc⟩ := Kd.R_reads h
  exact Kd.C_string Try.underlying68 Try.underlying5 Try.underlying9 hc
/-- Byte i of a row. -/
theorem BytesAt.place {w : World} {B : Nat} {v : Value} {xs : List Int} (h : BytesAt w B v xs) (i : Nat) (hi : i < xs.length) :
    ∃ b c, v = .slice (some ⟨b, 0, none⟩) xs.length c ∧ w.cell? ⟨b, i, none⟩ = some (.int .u8 (xs.getD i 0)) ∧ w.frozen? ⟨b, i, none⟩ = false ∧ B ≤ b ∧ b < w.heap.size := by
  obtain ⟨inner, hown⟩ := Kd.R_own h
  obtain ⟨A, c, e, _, hC⟩ := Kd.R_reads h
  have hr := Kd.reads_of_C (d := (0 : Int)) (enc := Value.int .u8) hC
  rcases hown.2 with ⟨e2, h0⟩ | ⟨b, cap, cur, e2, hb, hblk, _⟩
  · omega
  · rw [e2] at e
    injection e with e3 _ e4
    subst e3 e4
    obtain ⟨ad, e5, hcell⟩ := ReadsOf.at_ hr (i : Int) (by omega) (by omega)
    injection e5 with e5
    subst e5
    refine ⟨b, cap, e2, ?_, ?_, hb, blk_lt hblk⟩
    · have : (⟨b, 0, none⟩ : Addr).add (i : Int).toNat = ⟨b, i, none⟩ := by rw [add_plain]; simp
      rw [this] at hcell
      simpa [rdOf] using hcell
    · exact blk_frozen hblk i
/-- A byte of a row is turned. -/
theorem BytesAt.store {w : World} {B b n c : Nat} {xs : List Int} (h : BytesAt w B (.slice (some ⟨b, 0, none⟩) n c) xs) (i : Nat) (y : Int) :
    BytesAt (w.setCell ⟨b, i, none⟩ (.int .u8 y)) B (.slice (some ⟨b, 0, none⟩) n c) (xs.set i y) := by
  have := Kd.R_putn (enc := Value.int .u8) (h1 := fun _ => rfl) h (i : Int) y
  rw [Int.toNat_natCast] at this
  exact this
theorem infoB : (Try.prog.info? 5).map (fun i => (i.zero, i.size, i.bytes)) = some (some (.int .u8 0), 1, 1) := by kernel_rfl
section
variable {ops : Array Oper} {o : Oper} {a : Act} {Q : Exit → Act → World → Prop} {Kc : Act → World → Prop} {rest : List Oper}
/-- One byte more: a list of operations; a region that draws. -/
theorem app_list {w0 W : World} {B : Nat} (s x : Operand) (y : Int) {v : Value} {xs : List Int} (hgd : o.guard = none)
    (ho : o.op = .call { callee := .builtin .append, args := #[s, x], argTypes := #[68, 68] }) (hs : a.eval s = v) (hx : a.eval x = .slice (some ⟨W.heap.size, 0, none⟩) 1 1)
    (HO : BytesAt W B v xs) (HB : Below B w0 W) (hB : B ≤ W.heap.size) (hl : xs.length < 140737488355328)
    (h : ∀ v1 w1, Aside0 (BytesAt w1 B v1 (xs ++ [y])) → Aside0 (Below B w0 w1) → Aside0 (W.grownBy w1 v.ownBlock) → Aside0 (v1.ownBlock = v.ownBlock ∨ ∃ b, v1.ownBlock = some b ∧ W.heap.size ≤ b) → wpList Try.prog ops Q rest (a.put o.dst v1) w1) :
    wpList Try.prog ops Q (o :: rest) a (W.alloc (.cells #[.int .u8 y] 5)) :=
  Kd.R_append (Kd.int .u8) (w0 := w0) B hgd s x 68 5 (.int .u8 0) 1 ho Try.underlying68 infoB rfl (by decide) (by omega) v xs y [.int .u8 y] (fun _ => True) (fun _ => False) hs hx rfl (fun _ hk => hk.elim)
    (fun _ _ => trivial) HO.all HB hB (by omega) (fun v1 w1 h1 h2 h3 h4 => h v1 w1 ⟨.of h1⟩ ⟨h2⟩ ⟨h3⟩ ⟨h4⟩)
end
end Go.Proofs.Ytgihacaegmpggaa.Hand

/- Words for rows of whole numbers of one's own. -/
namespace Go.Proofs.Ytgihacaegmpggaa.Hand
open Go.RowKit Go.Proofs.YtgihacaegmpggaaW.PrintWords Go.Proofs.YtgihacaegmpggaaW.PrintLast Go.Proofs.YtgihacaegmpggaaW.PrintMore
set_option linter.unusedVariables false
set_option linter.unusedSimpArgs false

/-- A row of whole numbers of one's own. -/
def IntsAt (w : World) (B : Nat) (v : Value) (xs : List Int) : Prop := Kd.R (Kd.int .i64) 3 w B (fun k => v.ownBlock = some k) v xs
theorem int_E : ∀ q, q ∈ 3 :: (Kd.int .i64).E → q = 3 := by
  intro q hq
  simpa [Kd.int, Kd.scalar] using hq
theorem IntsAt.of {w : World} {B : Nat} {ok : Nat → Prop} {v : Value} {xs : List Int} (h : Kd.R (Kd.int .i64) 3 w B ok v xs) : IntsAt w B v xs := by
  obtain ⟨h0, inner, hown, hr⟩ := h
  exact ⟨fun k hk => hk, inner, hown, hr.imp_ (fun _ _ hm => hm)⟩
theorem IntsAt.all {w : World} {B : Nat} {v : Value} {xs : List Int} (h : IntsAt w B v xs) : Kd.R (Kd.int .i64) 3 w B (fun _ => True) v xs := Kd.R_mono h (fun _ _ => trivial)
theorem IntsAt.nil (w : World) (B : Nat) : IntsAt w B (.slice none 0 0) [] := Kd.R_nil _ _ _ _ _
theorem IntsAt.below {w w' : World} {B : Nat} {v : Value} {xs : List Int} (h : IntsAt w B v xs) (hb : Below w.heap.size w w') : IntsAt w' B v xs := Kd.R_below h hb
theorem IntsAt.set {w : World} {B : Nat} {v : Value} {xs : List Int} (h : IntsAt w B v xs) {g t : Nat} {cells : Array Value} (hb : w.heap[g]? = some (.cells cells t (0, 0))) (ht : t ≠ 3) (j : Nat) (u : Value) : IntsAt (w.setCell ⟨g, j, none⟩ u) B v xs :=
  .of (Kd.R_set h.all hb (fun q hq => by rw [int_E q hq]; exact fun e => ht e.symm) j u)
theorem IntsAt.lt {w : World} {B : Nat} {v : Value} {xs : List Int} (h : IntsAt w B v xs) : ∀ k, v.ownBlock = some k → k < w.heap.size := fun k hk => Kd.R_lt h k hk
theorem IntsAt.C {w : World} {B : Nat} {v : Value} {xs : List Int} (h : IntsAt w B v xs) : ∃ A c, v = .slice A xs.length c ∧ xs.length ≤ c ∧ Kd.C (Kd.int .i64) w A xs.length xs := Kd.R_reads h
/-- A block of another kind is turned. -/
theorem IntsAt.kept {w w' : World} {B g : Nat} {v : Value} {xs : List Int} {cs : Array Value} {t : TypeId} (h : IntsAt w B v xs) (hb : w.heap[g]? = some (.cells cs t (0, 0))) (ht : t ≠ 3) (hk : Kept w w' (fun k => k = g)) : IntsAt w' B v xs := by
  have h1 := Kd.R_types h hb (fun q hq => by rw [int_E q hq]; exact fun e => ht e.symm)
  exact .of (Kd.R_kept h1 hk (fun k hk1 hk2 => hk1.2 hk2))
theorem IntsAt.ge {w : World} {B : Nat} {v : Value} {xs : List Int} (h : IntsAt w B v xs) : ∀ k, v.ownBlock = some k → B ≤ k := fun k hk => ((Kd.R_bound h).1 k hk).2.1
/-- Number i of a row. -/
theorem IntsAt.place {w : World} {B : Nat} {v : Value} {xs : List Int} (h : IntsAt w B v xs) (i : Nat) (hi : i < xs.length) :
    ∃ b c, v = .slice (some ⟨b, 0, none⟩) xs.length c ∧ xs.length ≤ c ∧ (∀ j, j < xs.length → w.cell? ⟨b, j, none⟩ = some (.int .i64 (xs.getD j 0))) ∧ (∀ j, w.frozen? ⟨b, j, none⟩ = false) ∧ B ≤ b ∧ b < w.heap.size := by
  obtain ⟨inner, hown⟩ := Kd.R_own h
  obtain ⟨A, c, e, hlc, hC⟩ := Kd.R_reads h
  have hr := Kd.reads_of_C (d := (0 : Int)) (enc := Value.int .i64) hC
  rcases hown.2 with ⟨e2, h0⟩ | ⟨b, cap, cur, e2, hb, hblk, _⟩
  · omega
  · rw [e2] at e
    injection e with e3 _ e4
    subst e3 e4
    refine ⟨b, cap, e2, hlc, fun j hj => ?_, fun j => blk_frozen hblk j, hb, blk_lt hblk⟩
    obtain ⟨ad, e5, hcell⟩ := ReadsOf.at_ hr (j : Int) (by omega) (by omega)
    injection e5 with e5
    subst e5
    have : (⟨b, 0, none⟩ : Addr).add (j : Int).toNat = ⟨b, j, none⟩ := by rw [add_plain]; simp
    rw [this] at hcell
    simpa [rdOf] using hcell
/-- A number of a row is turned. -/
theorem IntsAt.store {w : World} {B b n c : Nat} {xs : List Int} (h : IntsAt w B (.slice (some ⟨b, 0, none⟩) n c) xs) (i : Nat) (y : Int) :
    IntsAt (w.setCell ⟨b, i, none⟩ (.int .i64 y)) B (.slice (some ⟨b, 0, none⟩) n c) (xs.set i y) := by
  have := Kd.R_putn (enc := Value.int .i64) (h1 := fun _ => rfl) h (i : Int) y
  rw [Int.toNat_natCast] at this
  exact this
theorem infoI : (Try.prog.info? 3).map (fun i => (i.zero, i.size, i.bytes)) = some (some (.int .i64 0), 1, 8) := by kernel_rfl
section
variable {ops : Array Oper} {o : Oper} {a : Act} {Q : Exit → Act → World → Prop} {rest : List Oper}
theorem app_ints {w0 W : World} {B : Nat} (s x : Operand) (y : Int) {v : Value} {xs : List Int} (hgd : o.guard = none)
    (ho : o.op = .call { callee := .builtin .append, args := #[s, x], argTypes := #[53, 53] }) (hs : a.eval s = v) (hx : a.eval x = .slice (some ⟨W.heap.size, 0, none⟩) 1 1)
    (HO : IntsAt W B v xs) (HB : Below B w0 W) (hB : B ≤ W.heap.size) (hl : xs.length < 17592186044415)
    (h : ∀ v1 w1, Aside0 (IntsAt w1 B v1 (xs ++ [y])) → Aside0 (Below B w0 w1) → Aside0 (W.grownBy w1 v.ownBlock) → Aside0 (v1.ownBlock = v.ownBlock ∨ ∃ b, v1.ownBlock = some b ∧ W.heap.size ≤ b) → wpList Try.prog ops Q rest (a.put o.dst v1) w1) :
    wpList Try.prog ops Q (o :: rest) a (W.alloc (.cells #[.int .i64 y] 3)) :=
  Kd.R_append (Kd.int .i64) (w0 := w0) B hgd s x 53 3 (.int .i64 0) 8 ho Try.underlying53 infoI rfl (by decide) (by omega) v xs y [.int .i64 y] (fun _ => True) (fun _ => False) hs hx rfl (fun _ hk => hk.elim)
    (fun _ _ => trivial) HO.all HB hB (by omega) (fun v1 w1 h1 h2 h3 h4 => h v1 w1 ⟨.of h1⟩ ⟨h2⟩ ⟨h3⟩ ⟨h4⟩)
end
/-- A block of another kind stays when a row grows. -/
theorem IntsAt.other {W w1 : World} {B g : Nat} {v : Value} {xs : List Int} {cs : Array Value} {t : TypeId} (h : IntsAt W B v xs) (hb : W.heap[g]? = some (.cells cs t (0, 0))) (ht : t ≠ 3) (hg : W.grownBy w1 v.ownBlock) : w1.heap[g]? = some (.cells cs t (0, 0)) := by
  rw [hg.block g (blk_lt hb) (fun e => (Kd.R_ne h.all hb (fun e2 => ht e2.symm)) e)]
  exact hb
def tab (n : Nat) (f : Nat → Int) : List Int := (List.range n).map f
theorem tab_length (n : Nat) (f : Nat → Int) : (tab n f).length = n := by simp [tab]
theorem tab_get (n : Nat) (f : Nat → Int) (j : Nat) (h : j < n) : (tab n f).getD j 0 = f j := by simp [tab, List.getD_eq_getElem?_getD, h]
theorem tab_snoc (n : Nat) (f : Nat → Int) : tab (n + 1) f = tab n f ++ [f n] := by simp [tab, List.range_succ]
end Go.Proofs.Ytgihacaegmpggaa.Hand

/- A region that draws, in which one operation makes a block and all others but the last ones are still: one walk, in the order of the text. -/
namespace Go.Proofs.Ytgihacaegmpggaa.Hand
open Go.RowKit
set_option linter.unusedVariables false
set_option linter.unusedSimpArgs false

section
variable {P : Program} {ops : Array Oper} {md : Region.Mode} {w w1 : World} {kA : Nat} {dA : Option Tmp} {pA : Value}
/-- One operation: number kA makes the block; any other one gives the same in both worlds. -/
def stA (P : Program) (ops : Array Oper) (w w1 : World) (kA : Nat) (dA : Option Tmp) (pA : Value) (i : Nat) (K : Act → Prop) (a : Act) : Prop :=
  if i = kA then K (a.put dA pA) else stOp P ops w i K a ∧ stOp P ops w1 i K a
def YA (P : Program) (ops : Array Oper) (w w1 : World) (kA : Nat) (pA : Value) (i : Nat) (o : Oper) (v : Value) (a : Act) : Prop :=
  if i = kA then v = pA else YieldsAt P ops w o v a ∧ YieldsAt P ops w1 o v a
theorem stA_mono {i : Nat} {a : Act} {K K' : Act → Prop} (h : ∀ a, K a → K' a) (hh : stA P ops w w1 kA dA pA i K a) : stA P ops w w1 kA dA pA i K' a := by
  unfold stA at *
  split
  · rename_i e
    rw [if_pos e] at hh
    exact h _ hh
  · rename_i e
    rw [if_neg e] at hh
    exact ⟨stOp_mono h hh.1, stOp_mono h hh.2⟩
theorem YA.stA {i : Nat} {o : Oper} {v : Value} {a : Act} (hi : ops[i]? = some o) (hd : i = kA → o.dst = dA) (hy : YA P ops w w1 kA pA i o v a) {K : Act → Prop} (h : K (a.put o.dst v)) : stA P ops w w1 kA dA pA i K a := by
  unfold YA at hy
  unfold Hand.stA
  split
  · rename_i e
    rw [if_pos e] at hy
    rw [← hd e, ← hy]
    exact h
  · rename_i e
    rw [if_neg e] at hy
    exact ⟨hy.1.stOp hi h, hy.2.stOp hi h⟩
theorem stOp_put2 {j : Nat} {oi oj : Oper} {v : Value} (hj : ops[j]? = some oj) (hap : oi.apart ops oj = true)
    (hsj : ∀ cs b, oj.op ≠ .select cs b) {K I : Act → Prop} {a : Act} (hI : I a) (keep : ∀ a u, I a → I (a.put oj.dst u))
    (h : stOp P ops w j K (a.put oi.dst v)) : stOp P ops w j (fun a' => I a' ∧ K (a'.put oi.dst v)) a := by
  obtain ⟨h1, h2, h3⟩ := Oper.apart_spec hap
  unfold stOp at *
  simp only [hj] at *
  rw [wanted_put oj a oi.dst v h1] at h
  split
  · rename_i hw
    simp only [hw, if_true] at h
    unfold Oper.still at *
    rw [execOp_put oj hsj a oi.dst v h1] at h
    generalize (execOp a.eval oj).run P w = r at *
    cases r with
    | ok n w' =>
      cases n <;> simp only [Oper.stillUpon] at h ⊢
      case value u => exact ⟨h.1, keep a u hI, by rw [← Act.put_comm a v u h2]; exact h.2⟩
      case skip => exact ⟨h.1, keep a _ hI, by rw [← Act.put_comm a v undef h2]; exact h.2⟩
      case enter f args => obtain ⟨hw', u, hc, hn⟩ := h; exact ⟨hw', u, hc, keep a u hI, by rw [← Act.put_comm a v u h2]; exact hn⟩
    | halt x w' => simp only [Oper.stillUpon] at h
  · rename_i hw
    simp only [hw] at h
    exact ⟨keep a _ hI, by rw [← Act.put_comm a v undef h2]; exact h⟩
theorem stA_put {i j : Nat} {oi oj : Oper} {v : Value} (hij : j ≠ i) (hj : ops[j]? = some oj) (hdj : j = kA → oj.dst = dA) (hap : oi.apart ops oj = true)
    (hsi : ∀ cs b, oi.op ≠ .select cs b) (hsj : ∀ cs b, oj.op ≠ .select cs b) {K : Act → Prop} {a : Act}
    (hy : YA P ops w w1 kA pA i oi v a) (h : stA P ops w w1 kA dA pA j K (a.put oi.dst v)) :
    stA P ops w w1 kA dA pA j (fun a' => YA P ops w w1 kA pA i oi v a' ∧ K (a'.put oi.dst v)) a := by
  obtain ⟨h1, h2, h3⟩ := Oper.apart_spec hap
  have keep : ∀ (a : Act) u, YA P ops w w1 kA pA i oi v a → YA P ops w w1 kA pA i oi v (a.put oj.dst u) := fun a u hy => by
    unfold YA at *
    split
    · rename_i e
      rw [if_pos e] at hy
      exact hy
    · rename_i e
      rw [if_neg e] at hy
      exact ⟨hy.1.of_same (execOp_put oi hsi a oj.dst u h3) (wanted_put oi a oj.dst u h3), hy.2.of_same (execOp_put oi hsi a oj.dst u h3) (wanted_put oi a oj.dst u h3)⟩
  unfold stA at *
  split
  · rename_i e
    rw [if_pos e, ← hdj e, Act.put_comm a v pA h2] at h
    rw [← hdj e]
    exact ⟨keep a pA hy, h⟩
  · rename_i e
    rw [if_neg e] at h
    exact ⟨stOp_put2 hj hap hsj hy keep h.1, stOp_put2 hj hap hsj hy keep h.2⟩
def wpAnyA (P : Program) (md : Region.Mode) (ops : Array Oper) (w w1 : World) (kA : Nat) (dA : Option Tmp) (pA : Value) (n : Nat) (L : Array Bool → Act → Prop) : Nat → Array Bool → Act → Prop
  | 0, listed, a => L listed a
  | f + 1, listed, a =>
    Region.ready md ops listed ≠ [] ∧ ∀ i ∈ Region.ready md ops listed, i < n ∧ stA P ops w w1 kA dA pA i (wpAnyA P md ops w w1 kA dA pA n L f (listed.setIfInBounds i true)) a
theorem wpAny_of_headA {n g : Nat} {oA : Oper} {L : Array Bool → Act → Prop} {Q' : Exit → Act → World → Prop} (hA : ops[kA]? = some oA) (hd : oA.dst = dA)
    (hrun : ∀ a : Act, (execOp a.eval oA).run P w = .ok (.value pA) w1) (hwant : ∀ t, Region.wanted oA (yielded ops t) = true)
    (hL : ∀ listed a, L listed a → listed.getD kA false = true ∧ wpAny P md ops Q' g listed a w1) :
    ∀ (f : Nat) (listed : Array Bool) (a : Act), listed.size = ops.size → wpAnyA P md ops w w1 kA dA pA n L f listed a → wpAny P md ops Q' (f + g) listed a (if listed.getD kA false = true then w1 else w)
  | 0, listed, a, _, h => by
    obtain ⟨h1, h2⟩ := hL _ _ h
    rw [Nat.zero_add, if_pos h1]
    exact h2
  | f + 1, listed, a, hs, h => by
    rw [show f + 1 + g = (f + g) + 1 by omega]
    refine ⟨fun h0 => absurd h0 h.1, fun i hi => ?_⟩
    have hst := (h.2 i hi).2
    have hs2 : (listed.setIfInBounds i true).size = ops.size := by simpa using hs
    have ih := fun a' (h' : wpAnyA P md ops w w1 kA dA pA n L f (listed.setIfInBounds i true) a') => wpAny_of_headA (n := n) hA hd hrun hwant hL f (listed.setIfInBounds i true) a' hs2 h'
    unfold stA at hst
    by_cases e : i = kA
    · subst e
      rw [if_pos rfl] at hst
      have hun := (mem_ready.1 hi).1
      have hlt : i < listed.size := by
        rw [hs]
        exact (Array.getElem?_eq_some_iff.1 hA).1
      have hf : (listed.setIfInBounds i true).getD i false = true := by simp [hlt]
      have hf0 : listed.getD i false = false := getD_both hun
      rw [if_neg (by rw [hf0]; decide)]
      unfold wpOp
      simp only [hA, hwant, if_true]
      refine .inl ?_
      unfold Oper.wp
      rw [hrun a]
      have h3 := ih _ hst
      rw [if_pos hf] at h3
      show wpAny P md ops Q' (f + g) (listed.setIfInBounds i true) (a.put oA.dst pA) w1
      rw [hd]
      exact h3
    · rw [if_neg e] at hst
      have hf : (listed.setIfInBounds i true).getD kA false = listed.getD kA false := getD_set_ne false e
      rw [hf] at ih
      by_cases hfl : listed.getD kA false = true
      · rw [if_pos hfl] at ih ⊢
        exact wpOp_of_stOp (fun a' h' => ih a' h') hst.2
      · rw [if_neg hfl] at ih ⊢
        exact wpOp_of_stOp (fun a' h' => ih a' h') hst.1
/-- From number n on nothing is ready while one of the first n is left. -/
def tailB (md : Region.Mode) (ops : Array Oper) (n : Nat) : Bool :=
  (List.range ops.size).all fun t => decide (t < n) || (List.range n).all fun i => Region.waitsFor md ops t i
theorem tailB_waits {n : Nat} {listed : Array Bool} (hs : tailB md ops n = true) (i : Nat) (hi : i < n) (hun : listed.getD i true = false) (t : Nat) (ht : n ≤ t) : t ∉ Region.ready md ops listed := by
  intro hr
  obtain ⟨_, ot, hot, hall⟩ := mem_ready.1 hr
  have htlt : t < ops.size := (Array.getElem?_eq_some_iff.1 hot).1
  have h1 := List.all_eq_true.1 hs t (List.mem_range.2 htlt)
  simp only [Bool.or_eq_true, decide_eq_true_eq] at h1
  rcases h1 with h1 | h1
  · omega
  · obtain ⟨o', ho', e, he, hb, hon⟩ := Region.waitsFor_spec (List.all_eq_true.1 h1 i (List.mem_range.2 hi))
    have : o' = ot := Option.some.inj (ho'.symm.trans hot)
    subst this
    have h2 := hall e he hb
    rw [hon, getD_both hun] at h2
    cases h2
theorem wpAnyA_first {n i : Nat} {oi oA : Oper} {v : Value} {L : Array Bool → Act → Prop} (hA : ops[kA]? = some oA) (hd : oA.dst = dA) (hi : ops[i]? = some oi) (hsel : ∀ (j : Nat) (o : Oper) cs b, ops[j]? = some o → o.op ≠ .select cs b)
    (hs : tailB md ops n = true) (hin : i < n)
    (hdone : ∀ listed a, L listed a → ∀ j ∈ Region.ready md ops listed, n ≤ j) :
    ∀ (f : Nat) (listed : Array Bool) (a : Act),
      (∀ j oj, ops[j]? = some oj → j ≠ i → listed.getD j true = false → (∀ e ∈ oj.after, Region.binds md e = true → e.on ≠ i) → oi.apart ops oj = true) →
      i ∈ Region.ready md ops listed → YA P ops w w1 kA pA i oi v a →
      wpAnyA P md ops w w1 kA dA pA n L f (listed.setIfInBounds i true) (a.put oi.dst v) → wpAnyA P md ops w w1 kA dA pA n L (f + 1) listed a := by
  have hdd : ∀ (j : Nat) (o : Oper), ops[j]? = some o → j = kA → o.dst = dA := fun j o ho e => by
    subst e
    rw [hA] at ho
    injection ho with ho
    rw [← ho]
    exact hd
  intro f
  induction f with
  | zero =>
    intro listed a _ hr hy H
    have hun := (mem_ready.1 hr).1
    refine ⟨fun h => (by rw [h] at hr; cases hr), fun j hj => ?_⟩
    have hjn : j < n := by
      rcases Nat.lt_or_ge j n with h | h
      · exact h
      · exact absurd hj (tailB_waits hs i hin hun j h)
    refine ⟨hjn, ?_⟩
    by_cases hji : j = i
    · subst hji; exact hy.stA hi (hdd _ _ hi) H
    · have := hdone _ _ H j (ready_mono hj hji)
      omega
  | succ f ih =>
    intro listed a hfree hr hy H
    have hun := (mem_ready.1 hr).1
    refine ⟨fun h => (by rw [h] at hr; cases hr), fun j hj => ?_⟩
    have hjn : j < n := by
      rcases Nat.lt_or_ge j n with h | h
      · exact h
      · exact absurd hj (tailB_waits hs i hin hun j h)
    refine ⟨hjn, ?_⟩
    by_cases hji : j = i
    · subst hji; exact hy.stA hi (hdd _ _ hi) H
    · have h1 := (H.2 j (ready_mono hj hji)).2
      obtain ⟨hjun, oj, hoj, hall⟩ := mem_ready.1 hj
      have hnot : ∀ e ∈ oj.after, Region.binds md e = true → e.on ≠ i := fun e he hb heq => by
        have h1 := hall e he hb
        rw [heq, getD_both hun] at h1
        cases h1
      have h2 := stA_put hji hoj (hdd _ _ hoj) (hfree j oj hoj hji hjun hnot) (fun cs b => hsel i oi cs b hi) (fun cs b => hsel j oj cs b hoj) hy h1
      have hfree' : ∀ k ok, ops[k]? = some ok → k ≠ i → (listed.setIfInBounds j true).getD k true = false →
          (∀ e ∈ ok.after, Region.binds md e = true → e.on ≠ i) → oi.apart ops ok = true := fun k ok hk hki hun hno => by
        refine hfree k ok hk hki ?_ hno
        by_cases hjk : j = k
        · subst hjk; exact hjun
        · rw [getD_set_ne true hjk] at hun; exact hun
      refine stA_mono (fun a' h3 => ih (listed.setIfInBounds j true) a' hfree' (ready_mono hr (Ne.symm hji)) h3.1 ?_) h2
      rw [Array.setIfInBounds_comm _ _ hji]
      exact h3.2
/-- The walk, in the order of the text. -/
def wpStillA (P : Program) (ops : Array Oper) (w w1 : World) (kA : Nat) (pA : Value) (Q : Act → Prop) : List Oper → Nat → Act → Prop
  | [], _, a => Q a
  | o :: rest, k, a => if k = kA then wpStillA P ops w w1 kA pA Q rest (k + 1) (a.put o.dst pA) else
    ∃ v, (Region.wanted o (yielded ops a.tmps) = true ∧ (execOp a.eval o).run P w = .ok (.value v) w ∧ (execOp a.eval o).run P w1 = .ok (.value v) w1) ∧ wpStillA P ops w w1 kA pA Q rest (k + 1) (a.put o.dst v)
theorem wpStillA_nil {Q : Act → Prop} {k : Nat} {a : Act} (h : Q a) : wpStillA P ops w w1 kA pA Q [] k a := h
def bothUpon (o : Oper) (a : Act) (w w1 : World) (next : Act → Prop) : Result Next → Result Next → Prop
  | .ok (.value v) w', .ok (.value v') w'' => w' = w ∧ w'' = w1 ∧ v' = v ∧ next (a.put o.dst v)
  | _, _ => False
theorem bothUpon_value (o : Oper) (a : Act) (w w1 : World) (next : Act → Prop) (v v' : Value) : bothUpon o a w w1 next (.ok (.value v) w) (.ok (.value v') w1) = (v' = v ∧ next (a.put o.dst v)) := by simp [bothUpon]
theorem wpStillA_next {Q : Act → Prop} {k : Nat} {a : Act} {o : Oper} {rest : List Oper} (e : k ≠ kA) (hw : Region.wanted o (yielded ops a.tmps) = true)
    (h : ∀ K : Act → Prop, (∀ a, wpStillA P ops w w1 kA pA Q rest (k + 1) a → K a) → bothUpon o a w w1 K ((execOp a.eval o).run P w) ((execOp a.eval o).run P w1)) : wpStillA P ops w w1 kA pA Q (o :: rest) k a := by
  unfold wpStillA
  rw [if_neg e]
  have h2 := h _ (fun _ h => h)
  generalize (execOp a.eval o).run P w = r at *
  generalize (execOp a.eval o).run P w1 = r1 at *
  cases r with
  | ok n w' =>
    cases r1 with
    | ok n1 w'' =>
      cases n <;> cases n1 <;> simp only [bothUpon] at h2
      obtain ⟨h3, h4, h5, h6⟩ := h2
      exact ⟨_, ⟨hw, by rw [h3], by rw [h4, h5]⟩, h6⟩
    | halt x w'' => simp only [bothUpon] at h2
  | halt x w' => simp only [bothUpon] at h2
theorem wpStillA_made {Q : Act → Prop} {k : Nat} {a : Act} {o : Oper} {rest : List Oper} (e : k = kA)
    (h : ∀ K : Act → Prop, (∀ a, wpStillA P ops w w1 kA pA Q rest (k + 1) a → K a) → K (a.put o.dst pA)) : wpStillA P ops w w1 kA pA Q (o :: rest) k a := by
  unfold wpStillA
  rw [if_pos e]
  exact h _ (fun _ h => h)
def newB (md : Region.Mode) (ops : Array Oper) (kA n : Nat) : Bool :=
  Region.noSelect ops && decide (n < ops.size) && decide (kA < n) && tailB md ops n && Region.lexHead md ops (ops.size - n) n 0 (Array.replicate ops.size false)
theorem wpAnyA_lex {n g : Nat} {oA : Oper} {Lq : Act → Prop} (hA : ops[kA]? = some oA) (hd : oA.dst = dA) (hsel : Region.noSelect ops = true) (hs : tailB md ops n = true) (hn : n < ops.size) :
    ∀ (l : List Oper) (k : Nat) (listed : Array Bool) (a : Act), listed.size = ops.size → (k ≤ kA ∨ listed.getD kA false = true) → (∀ j, j < l.length → l[j]? = ops[k + j]?) → k + l.length = n → kA < n →
    Region.lexHead md ops g l.length k listed = true → wpStillA P ops w w1 kA pA Lq l k a →
    wpAnyA P md ops w w1 kA dA pA n (fun listed' a' => listed'.getD kA false = true ∧ Region.seqB md ops g n listed' = true ∧ Lq a') l.length listed a
  | [], k, listed, a, _, hlk, _, hk, hkA, hB, h => by
    have : k = n := by simpa using hk
    subst this
    exact ⟨hlk.resolve_left (by omega), by simpa [Region.lexHead] using hB, h⟩
  | o :: l, k, listed, a, hsz, hlk, hl, hk, hkA, hB, h => by
    have h0 : ops[k]? = some o := by simpa using (hl 0 (by simp)).symm
    simp only [List.length_cons, Region.lexHead, Bool.and_eq_true] at hB
    obtain ⟨⟨hr, hf⟩, hB'⟩ := hB
    have hkn : k < n := by simp only [List.length_cons] at hk; omega
    have hr' : k ∈ Region.ready md ops listed := by simpa using hr
    have hsz2 : (listed.setIfInBounds k true).size = ops.size := by simpa using hsz
    have hlk2 : k + 1 ≤ kA ∨ (listed.setIfInBounds k true).getD kA false = true := by
      by_cases e : k = kA
      · subst e
        right
        have : k < listed.size := by rw [hsz]; omega
        simp [this]
      · rcases hlk with h | h
        · left; omega
        · right; exact getD_set_true h
    have hrec := fun v (hK : wpStillA P ops w w1 kA pA Lq l (k + 1) (a.put o.dst v)) => wpAnyA_lex (g := g) hA hd hsel hs hn l (k + 1) (listed.setIfInBounds k true) (a.put o.dst v) hsz2 hlk2 (fun j hj => by have := hl (j + 1) (by simp; omega); simpa [Nat.add_assoc, Nat.add_comm 1 j] using this) (by simp only [List.length_cons] at hk; omega) hkA hB' hK
    unfold wpStillA at h
    by_cases e : k = kA
    · rw [if_pos e] at h
      refine wpAnyA_first (v := pA) hA hd h0 (Region.noSelect_spec hsel) hs hkn (fun listed' a' hL => seqB_ready hL.2.1) l.length listed a (Region.free_spec h0 hf) hr' ?_ (hrec pA h)
      unfold YA
      rw [if_pos e]
    · rw [if_neg e] at h
      obtain ⟨v, ⟨hw, hy0, hy1⟩, hK⟩ := h
      refine wpAnyA_first (v := v) hA hd h0 (Region.noSelect_spec hsel) hs hkn (fun listed' a' hL => seqB_ready hL.2.1) l.length listed a (Region.free_spec h0 hf) hr' ?_ (hrec v hK)
      unfold YA
      rw [if_neg e]
      exact ⟨.inl ⟨hw, .inl hy0⟩, .inl ⟨hw, .inl hy1⟩⟩
/-- The region: number kA makes the block pA, the others of the first n are still, the rest goes on in the world with that block. -/
theorem wp_region_still_new {id : Nat} {Q : Exit → Act → World → Prop} {a : Act} {w w1 : World} {l : List Oper} {oA : Oper} {pA : Value} (kA n : Nat) (hm : P.follows .mixedOrders = true) (hB : newB .any l.toArray kA n = true) (hA : l[kA]? = some oA)
    (hrun : ∀ a : Act, (execOp a.eval oA).run P { w with drawn := w.drawn + 1 } = .ok (.value pA) w1) (hwant : ∀ t, Region.wanted oA (yielded l.toArray t) = true)
    (h : wpStillA P l.toArray { w with drawn := w.drawn + 1 } w1 kA pA (fun a' => wpList P l.toArray Q (l.drop n) a' w1) (l.take n) 0 a) : (Code.region id l.toArray true).wp P Q a w := by
  simp only [newB, Bool.and_eq_true, decide_eq_true_eq] at hB
  obtain ⟨⟨⟨⟨hsel, hn⟩, hkn⟩, hs⟩, hlex⟩ := hB
  have hn' : n < l.length := by simpa using hn
  have htl : (l.take n).length = n := by simp; omega
  have hdl : (l.drop n).length = l.toArray.size - n := by simp
  have hA' : l.toArray[kA]? = some oA := by simpa using hA
  have H := wpAnyA_lex (md := .any) (dA := oA.dst) (g := l.toArray.size - n) hA' rfl hsel hs hn (l.take n) 0 (Array.replicate l.toArray.size false) a (by simp) (.inl (Nat.zero_le _)) (fun j hj => by
    have hj' : j < n := by rw [htl] at hj; exact hj
    simp [hj']) (by simpa using htl) hkn (by rw [htl]; exact hlex) h
  refine wp_region_any hm ?_
  have := wpAny_of_headA (Q' := Q) (g := l.toArray.size - n) hA' rfl hrun hwant (fun listed a' hL => ⟨hL.1, by
    have := wpAny_of_seq (md := .any) (Q' := Q) (l.drop n) n listed a' w1 (fun j => by simp [List.getElem?_drop]) (by rw [hdl]; exact hL.2.1) hL.2.2
    rwa [hdl] at this⟩) _ _ _ (by simp) H
  rw [htl, show n + (l.toArray.size - n) = l.toArray.size by omega, if_neg (by rw [getD_replicate_false]; decide)] at this
  exact this
end
end Go.Proofs.Ytgihacaegmpggaa.Hand

/- Plain words of layer 1: rows of bits, and their bytes. -/
namespace Go.Proofs.Ytgihacaegmpggaa.Hand
open Go.RowKit Go.Proofs.YtgihacaegmpggaaW.PrintWords
set_option linter.unusedVariables false
set_option linter.unusedSimpArgs false

/-- The value of bits, the highest first, the first one of weight w. -/
def val : List Bool → Nat → Nat
  | [], _ => 0
  | b :: l, w => (if b then w else 0) + val l (w / 2)
theorem val_snoc (b : Bool) : ∀ (l : List Bool) (w : Nat), val (l ++ [b]) w = val l w + (if b then w / 2 ^ l.length else 0)
  | [], w => by simp [val]
  | a :: l, w => by
    rw [List.cons_append, val, val_snoc b l, val, Nat.div_div_eq_div_mul, List.length_cons, Nat.pow_succ, Nat.mul_comm 2]
    omega
theorem val_lt : ∀ (l : List Bool) (k : Nat), val l (2 ^ k) < 2 ^ (k + 1)
  | [], k => by simp only [val]; exact Nat.two_pow_pos _
  | b :: l, 0 => by
    have : val l 0 = 0 := by
      induction l with
      | nil => rfl
      | cons a l ih => simp only [val, Nat.zero_div, ih]; cases a <;> rfl
    simp only [val]
    rw [show 2 ^ 0 / 2 = 0 from rfl, this]
    cases b <;> decide
  | b :: l, k + 1 => by
    have h := val_lt l k
    simp only [val]
    rw [show 2 ^ (k + 1) / 2 = 2 ^ k by rw [Nat.pow_succ, Nat.mul_div_cancel _ (by decide)], Nat.pow_succ 2 (k + 1)]
    cases b <;> simp <;> omega
theorem val_mod : ∀ (l : List Bool) (k : Nat), l.length ≤ k + 1 → val l (2 ^ k) % 2 ^ (k + 1 - l.length) = 0
  | [], k, _ => by simp [val]
  | b :: l, 0, h => by
    have : l = [] := by
      apply List.eq_nil_of_length_eq_zero
      simp at h
      exact List.length_eq_zero_iff.2 h
    subst this
    cases b <;> decide
  | b :: l, k + 1, h => by
    have h2 : l.length ≤ k + 1 := by simpa using h
    have hv := val_mod l k h2
    simp only [val]
    rw [show 2 ^ (k + 1) / 2 = 2 ^ k by rw [Nat.pow_succ, Nat.mul_div_cancel _ (by decide)], List.length_cons, show k + 1 + 1 - (l.length + 1) = k + 1 - l.length by omega]
    have hd : 2 ^ (k + 1 - l.length) ∣ 2 ^ (k + 1) := Nat.pow_dvd_pow 2 (by omega)
    have hd2 := Nat.dvd_of_mod_eq_zero hv
    apply Nat.mod_eq_zero_of_dvd
    cases b
    · simpa using hd2
    · exact Nat.dvd_add hd hd2
/-- Bits as bytes; the last byte with noughts. -/
def pack (bs : List Bool) : List Int := (List.range ((bs.length + 7) / 8)).map fun j => ((val ((bs.drop (8 * j)).take 8) 128 : Nat) : Int)
theorem pack_length (bs : List Bool) : (pack bs).length = (bs.length + 7) / 8 := by simp [pack]
theorem pack_at (bs : List Bool) (j : Nat) (h : j < (bs.length + 7) / 8) : (pack bs)[j]? = some ((val ((bs.drop (8 * j)).take 8) 128 : Nat) : Int) := by simp [pack, h]
theorem pack_none (bs : List Bool) (j : Nat) (h : (bs.length + 7) / 8 ≤ j) : (pack bs)[j]? = none := by simp [pack, h]
theorem chunk_in (bs : List Bool) (b : Bool) (j : Nat) (h : 8 * j + 8 ≤ bs.length) : ((bs ++ [b]).drop (8 * j)).take 8 = (bs.drop (8 * j)).take 8 := by
  rw [List.drop_append_of_le_length (by omega), List.take_append_of_le_length (by rw [List.length_drop]; omega)]
theorem chunk_last (bs : List Bool) (b : Bool) : ((bs ++ [b]).drop (8 * (bs.length / 8))).take 8 = bs.drop (8 * (bs.length / 8)) ++ [b] := by
  rw [List.drop_append_of_le_length (by omega), List.take_of_length_le (by simp; omega)]
theorem last_length (bs : List Bool) : (bs.drop (8 * (bs.length / 8))).length = bs.length % 8 := by rw [List.length_drop]; omega
theorem pack_false (bs : List Bool) : pack (bs ++ [false]) = if bs.length % 8 = 0 then pack bs ++ [0] else pack bs := by
  by_cases h : bs.length % 8 = 0
  · rw [if_pos h]
    apply List.ext_getElem?
    intro j
    by_cases hj : j < bs.length / 8
    · rw [pack_at _ _ (by simp; omega), chunk_in _ _ _ (by omega), List.getElem?_append_left (by rw [pack_length]; omega), pack_at _ _ (by omega)]
    · by_cases e : j = bs.length / 8
      · subst e
        rw [pack_at _ _ (by simp; omega), chunk_last, List.getElem?_append_right (by rw [pack_length]; omega), pack_length, show bs.length / 8 - (bs.length + 7) / 8 = 0 by omega, List.drop_of_length_le (by omega)]
        rfl
      · rw [pack_none _ _ (by simp; omega), List.getElem?_eq_none (by simp [pack_length]; omega)]
  · rw [if_neg h]
    apply List.ext_getElem?
    intro j
    by_cases hj : j < bs.length / 8
    · rw [pack_at _ _ (by simp; omega), chunk_in _ _ _ (by omega), pack_at _ _ (by omega)]
    · by_cases e : j = bs.length / 8
      · subst e
        rw [pack_at _ _ (by simp; omega), chunk_last, pack_at _ _ (by omega), List.take_of_length_le (by rw [last_length]; omega), val_snoc]
        simp
      · rw [pack_none _ _ (by simp; omega), pack_none _ _ (by omega)]
theorem or8 : ∀ r : Nat, r < 8 → ∀ m : Nat, m < 256 → m % 2 ^ (8 - r) = 0 → Go.bits .or .u8 (m : Int) ((128 / 2 ^ r : Nat) : Int) = ((m + 128 / 2 ^ r : Nat) : Int) := by decide +kernel
/-- A one more: the last byte's bit is laid. -/
theorem pack_true (bs : List Bool) : ∃ x, (pack (bs ++ [false]))[bs.length / 8]? = some x ∧ 0 ≤ x ∧ x < 256 ∧ pack (bs ++ [true]) = (pack (bs ++ [false])).set (bs.length / 8) (Go.bits .or .u8 x ((128 / 2 ^ (bs.length % 8) : Nat) : Int)) := by
  have hl := last_length bs
  have hlt : val (bs.drop (8 * (bs.length / 8))) 128 < 256 := val_lt _ 7
  have hm : val (bs.drop (8 * (bs.length / 8))) 128 % 2 ^ (7 + 1 - (bs.drop (8 * (bs.length / 8))).length) = 0 := val_mod _ 7 (by omega)
  rw [hl] at hm
  have e0 : (pack (bs ++ [false]))[bs.length / 8]? = some ((val (bs.drop (8 * (bs.length / 8))) 128 : Nat) : Int) := by
    rw [pack_at _ _ (by simp; omega), chunk_last, val_snoc]
    simp
  refine ⟨_, e0, by omega, by omega, ?_⟩
  rw [or8 (bs.length % 8) (by omega) _ hlt hm]
  apply List.ext_getElem?
  intro j
  rw [List.getElem?_set]
  by_cases e : bs.length / 8 = j
  · subst e
    rw [if_pos rfl, if_pos (by rw [pack_length]; simp; omega), pack_at _ _ (by simp; omega), chunk_last, val_snoc, hl]
    simp
  · rw [if_neg e]
    by_cases hj : j < bs.length / 8
    · rw [pack_at _ _ (by simp; omega), chunk_in _ _ _ (by omega), pack_at _ _ (by simp; omega), chunk_in _ _ _ (by omega)]
    · rw [pack_none _ _ (by simp; omega), pack_none _ _ (by simp; omega)]
/-- The bit at a place of a text's bytes. -/
def bitAt (xs : List Int) (p : Nat) : Bool := (xs.getD (p / 8) 0).toNat.testBit (7 - p % 8)
/-- So many bits of a number, the highest first; bits as a number. -/
def nbits (u w : Nat) : List Bool := (List.range w).map fun i => u.testBit (w - 1 - i)
def natOf (l : List Bool) : Nat := l.foldl (fun n b => 2 * n + b.toNat) 0
theorem nbits_length (u w : Nat) : (nbits u w).length = w := by simp [nbits]
theorem natOf_snoc (l : List Bool) (b : Bool) : natOf (l ++ [b]) = 2 * natOf l + b.toNat := by simp [natOf]
theorem nbits_take (u w : Nat) (i : Nat) (h : i < w) : (nbits u w).take (i + 1) = (nbits u w).take i ++ [u.testBit (w - 1 - i)] := by
  rw [List.take_succ_eq_append_getElem (by rw [nbits_length]; exact h)]
  simp [nbits]
theorem natOf_lt : ∀ (n : Nat) (l : List Bool), l.length = n → natOf l < 2 ^ n
  | 0, l, h => by
    rw [List.length_eq_zero_iff.1 h]
    decide
  | n + 1, l, h => by
    rcases List.eq_nil_or_concat l with e | ⟨l', b, e⟩
    · rw [e] at h; simp at h
    · rw [List.concat_eq_append] at e
      subst e
      have := natOf_lt n l' (by simpa using h)
      rw [natOf_snoc, Nat.pow_succ]
      cases b <;> simp <;> omega
end Go.Proofs.Ytgihacaegmpggaa.Hand

/- Contracts of layer 1, proved by hand: a writer's bit. -/
namespace Go.Proofs.Ytgihacaegmpggaa.Hand
open Go.RowKit Go.Proofs.YtgihacaegmpggaaW.PrintWords Go.Proofs.YtgihacaegmpggaaW.PrintLast Go.Proofs.YtgihacaegmpggaaW.PrintMore
set_option linter.unusedVariables false
set_option linter.unusedSimpArgs false

/-- A writer in block g: its count, its bytes. -/
def Raw (w : World) (B g : Nat) (v : Value) (n : Nat) (xs : List Int) : Prop := w.heap[g]? = some (.cells #[.int .i64 n, v] 87 (0, 0)) ∧ BytesAt w B v xs ∧ B ≤ g
/-- A writer of these bits. -/
def WAt (w : World) (B g : Nat) (v : Value) (bs : List Bool) : Prop := Raw w B g v bs.length (pack bs)
theorem Raw.below {w w' : World} {B g n : Nat} {v : Value} {xs : List Int} (h : Raw w B g v n xs) (hb : Below w.heap.size w w') : Raw w' B g v n xs := ⟨blk_below h.1 hb, h.2.1.below hb, h.2.2⟩
theorem Raw.lt {w : World} {B g n : Nat} {v : Value} {xs : List Int} (h : Raw w B g v n xs) : g < w.heap.size := blk_lt h.1
theorem Raw.count {w : World} {B g n m : Nat} {v : Value} {xs : List Int} (h : Raw w B g v n xs) : Raw (w.setCell ⟨g, 0, none⟩ (.int .i64 m)) B g v m xs :=
  ⟨blk_put h.1 0 _ rfl, h.2.1.set h.1 (by decide) 0 _, h.2.2⟩
theorem Raw.grown {W w1 : World} {B g n : Nat} {v : Value} {xs : List Int} (h : Raw W B g v n xs) (hg : W.grownBy w1 v.ownBlock) : w1.heap[g]? = some (.cells #[.int .i64 n, v] 87 (0, 0)) := by
  rw [hg.block g h.lt (fun e => ?_)]
  · exact h.1
  · exact Kd.R_ne h.2.1.all h.1 (by decide) e
theorem Raw.put {w : World} {B g n : Nat} {v v1 : Value} {xs : List Int} (hb : w.heap[g]? = some (.cells #[.int .i64 n, v] 87 (0, 0))) (hr : BytesAt w B v1 xs) (hB : B ≤ g) : Raw (w.setCell ⟨g, 1, none⟩ v1) B g v1 n xs :=
  ⟨blk_put hb 1 v1 rfl, hr.set hb (by decide) 1 v1, hB⟩
/-- A byte of the row is turned. -/
theorem Raw.byte {w : World} {B g n b c m : Nat} {xs : List Int} (h : Raw w B g (.slice (some ⟨b, 0, none⟩) m c) n xs) (i : Nat) (y : Int) : Raw (w.setCell ⟨b, i, none⟩ (.int .u8 y)) B g (.slice (some ⟨b, 0, none⟩) m c) n (xs.set i y) := by
  have hne : g ≠ b := by
    have := Kd.R_ne h.2.1.all h.1 (by decide)
    simpa [Value.ownBlock] using this
  refine ⟨?_, h.2.1.store i y, h.2.2⟩
  rw [Below.heap_setCell w ⟨b, i, none⟩ _ g hne]
  exact h.1
theorem Moved.byte {B g b c m : Nat} {w w1 : World} {v : Value} (h : Moved B g w v w1 (.slice (some ⟨b, 0, none⟩) m c)) (hb : B ≤ b) (i : Nat) (u : Value) : Moved B g w v (w1.setCell ⟨b, i, none⟩ u) (.slice (some ⟨b, 0, none⟩) m c) :=
  ⟨h.below.setCell hb u, h.kept.setCell (p := ⟨b, i, none⟩) ((h.own b rfl).imp .inr id) u, h.own⟩
set_option maxHeartbeats 1000000 in
theorem at_any (g : Nat) (n : Int) (w : World) (hc : w.cell? ⟨g, 0, none⟩ = some (.int .i64 n)) : Calls Try.prog 41 #[.pointer (some ⟨g, 0, none⟩)] w fun e w' => e = .returned (.int .i64 n) ∧ w = w' := by
  go_enter Try.func41, Try.ntmps41
  go_wp2
  go_ret
  exact ⟨rfl, rfl⟩
theorem at_still (g : Nat) (n : Int) (w : World) (hc : w.cell? ⟨g, 0, none⟩ = some (.int .i64 n)) : Calls Try.prog 41 #[.pointer (some ⟨g, 0, none⟩)] w fun e w' => e = .returned (.int .i64 n) ∧ w' = w := (at_any g n w hc).mono fun _ _ ⟨h1, h2⟩ => ⟨h1, h2.symm⟩
set_option maxHeartbeats 1000000 in
theorem on_any (g : Nat) (n k : Int) (w : World) (hc : w.cell? ⟨g, 0, none⟩ = some (.int .i64 n)) (hf : w.frozen? ⟨g, 0, none⟩ = false) (h0 : 0 ≤ n) (h1 : n ≤ 4611686018427387904) (h2 : 0 ≤ k) (h3 : k ≤ 4611686018427387903) : Calls Try.prog 42 #[.pointer (some ⟨g, 0, none⟩), .int .i64 k] w fun e w' => e = .returned (.tuple #[]) ∧ w.setCell ⟨g, 0, none⟩ (.int .i64 (n + k)) = w' := by
  go_enter Try.func42, Try.ntmps42
  go_wp2
  refine bodyPost_end (results_none rfl _ _ _) rfl ?_
  exact ⟨rfl, rfl⟩
set_option maxHeartbeats 4000000 in
set_option maxRecDepth 100000 in
theorem bit_any (bs : List Bool) (one : Bool) (B g : Nat) (v : Value) (w : World) (h : WAt w B g v bs) (hl : bs.length < 1125899906842624) :
    Calls Try.prog 50 #[.pointer (some ⟨g, 0, none⟩), .bool one] w fun e w' => e = .returned (.tuple #[]) ∧ ∃ v', WAt w' B g v' (bs ++ [one]) ∧ Moved B g w v w' v' := by
  have hup := Try.underlying63
  obtain ⟨n, hn⟩ : ∃ n, bs.length = n := ⟨_, rfl⟩
  have hraw : Raw w B g v n (pack bs) := by rw [← hn]; exact h
  have H := Aside0.mk hraw
  have HN := Aside0.mk hn
  have hpf := pack_false bs
  have hpt := pack_true bs
  have hlen := pack_length bs
  rw [hn] at hpf hpt hl hlen
  have HPL := Aside0.mk hlen
  have HPF := Aside0.mk hpf
  have HPT := Aside0.mk hpt
  have c0 : w.cell? ⟨g, 0, none⟩ = some (.int .i64 n) := blk_cell hraw.1 0
  have c1 : w.cell? ⟨g, 1, none⟩ = some v := blk_cell hraw.1 1
  clear h hn hraw hpf hpt hlen
  go_enter Try.func50, Try.ntmps50
  by_cases h8 : n % 8 = 0
  · have h8' : (n : Int) % 8 = 0 := by omega
    have HPF2 := Aside0.mk (HPF.out.trans (if_pos h8))
    clear h8
    go_upto_region 2 with (first | (go_at_call 41; refine (at_any g n _ c0).mono ?_; rintro e w' ⟨rfl, rfl⟩) | (at_builtin; (with_reducible refine app_list (w0 := w) (B := B) (v := v) (xs := pack bs) (.tmp 14) (.tmp 15) _ ?_ ?_ ?_ ?_ ?_ ?_ ?_ ?_ ?_); rfl; rfl; rfl; rfl; exact H.out.2.1; exact Below.refl _ _; exact Nat.le_trans H.out.2.2 (Nat.le_of_lt H.out.lt); (rw [HPL.out]; omega); intro v1 w1 HO1 HB1 HG1 HV1; have hb1 := Raw.grown H.out HG1.out; obtain ⟨A1, k1, e1⟩ := BytesAt.slice HO1.out; subst e1; have c11 : w1.cell? ⟨g, 1, none⟩ = some v := blk_cell hb1 1; have f11 := blk_frozen hb1 1))
    · have hr := Raw.put hb1 HO1.out H.out.2.2
      rw [← HPF2.out] at hr
      have HR := Aside0.mk hr
      have HM := Aside0.mk ((Moved.app (Moved.refl B g w v) HG1.out HB1.out HV1.out).set H.out.2.2 1 (.slice A1 ((pack bs).length + 1) k1))
      clear hr c0 c1 c11 f11 hb1 HO1 HB1 HG1 HV1 h8'
      generalize w1.setCell ⟨g, 1, none⟩ (.slice A1 ((pack bs).length + 1) k1) = wq at HR HM ⊢
      generalize Value.slice A1 ((pack bs).length + 1) k1 = v1 at HR HM ⊢
      have HRL := Aside0.mk (pack_length (bs ++ [false]))
      have c0 : wq.cell? ⟨g, 0, none⟩ = some (.int .i64 n) := blk_cell HR.out.1 0
      have c1 : wq.cell? ⟨g, 1, none⟩ = some v1 := blk_cell HR.out.1 1
      have f0 : wq.frozen? ⟨g, 0, none⟩ = false := blk_frozen HR.out.1 0
      cases one with
      | false =>
        go_wp2_with fail
        refine (on_any g n 1 _ c0 f0 (by omega) (by omega) (by omega) (by omega)).mono ?_
        rintro e w' ⟨rfl, rfl⟩
        go_wp2
        refine bodyPost_end (results_none rfl _ _ _) rfl ?_
        refine ⟨rfl, v1, ?_, HM.out.set H.out.2.2 0 _⟩
        unfold WAt
        rw [List.length_append, List.length_singleton, HN.out]
        exact HR.out.count
      | true =>
        obtain ⟨x, hx, x0, x1, hp⟩ := HPT.out
        have HP := Aside0.mk hp
        obtain ⟨xs, hxs⟩ : ∃ xs, pack (bs ++ [false]) = xs := ⟨_, rfl⟩
        rw [hxs] at HR hx HP
        have hxl : xs.length = n / 8 + 1 := by rw [← hxs, HRL.out, List.length_append, List.length_singleton, HN.out]; omega
        obtain ⟨b, cap, e1, cb, fb, hBb, hbl⟩ := HR.out.2.1.place (n / 8) (by omega)
        rw [hxl] at e1
        have hxg : xs.getD (n / 8) 0 = x := by rw [List.getD_eq_getElem?_getD, hx]; rfl
        rw [hxg] at cb
        subst e1
        have HBB := Aside0.mk hBb
        obtain ⟨r, hr⟩ : ∃ r, n % 8 = r := ⟨_, rfl⟩
        have et : (n : Int).tmod 8 = (r : Int) := by rw [← hr, Int.tmod_eq_emod_of_nonneg (by omega)]; omega
        have HSH := Aside0.mk (show (128 : Int) / 2 ^ r = ((128 / 2 ^ (n % 8) : Nat) : Int) by rw [hr]; simp)
        have m0 : 0 ≤ (r : Int) := by omega
        have m1 : (r : Int) < 8 := by omega
        clear hr
        obtain ⟨j, hj⟩ : ∃ j, n / 8 = j := ⟨_, rfl⟩
        rw [hj] at cb fb c1 HP HM HR
        have e8 : IntKind.i64.wrap (j : Int) = (j : Int) := by rw [IntKind.wrap_i64]; omega
        have i0 : (0 : Int) ≤ (j : Int) := by omega
        have i1 : (j : Int) < (j : Int) + 1 := by omega
        have HJ := Aside0.mk hj
        clear hx hp hxs hxl hxg hBb hj
        go_wp2
        go_still_tail 20, (by kernel_rfl)
        still_call (at_still g n _ c0)
        repeat still_step
        refine wpStill_nil ?_
        have HR2 : Aside0 (Raw wq.drew B g (.slice (some ⟨b, 0, none⟩) (j + 1) cap) n xs) := ⟨HR.out.below (below_drew (Below.refl _ _))⟩
        have HM2 : Aside0 (Moved B g w v wq.drew (.slice (some ⟨b, 0, none⟩) (j + 1) cap)) := ⟨HM.out.drew⟩
        have cb2 : wq.drew.cell? ⟨b, j, none⟩ = some (.int .u8 x) := cb
        have fb2 : wq.drew.frozen? ⟨b, j, none⟩ = false := fb
        clear c0 c1 f0 cb fb HR HM
        change wpList _ _ _ _ _ wq.drew
        generalize wq.drew = wz at HR2 HM2 cb2 fb2 ⊢
        go_wp2_with fail
        have HR3 := Aside0.mk (HR2.out.byte j (Go.bits .or .u8 x (128 / 2 ^ r)))
        have HM3 := Aside0.mk (HM2.out.byte HBB.out j (.int .u8 (Go.bits .or .u8 x (128 / 2 ^ r))))
        refine (on_any g n 1 _ (blk_cell HR3.out.1 0) (blk_frozen HR3.out.1 0) (by omega) (by omega) (by omega) (by omega)).mono ?_
        rintro e w' ⟨rfl, rfl⟩
        go_wp2
        refine bodyPost_end (results_none rfl _ _ _) rfl ?_
        try rw [HJ.out]
        refine ⟨rfl, _, ?_, HM3.out.set H.out.2.2 0 _⟩
        unfold WAt
        rw [List.length_append, List.length_singleton, HN.out, HP.out, ← HSH.out]
        exact HR3.out.count
  · have h8' : ¬ (n : Int) % 8 = 0 := by omega
    have HPF2 := Aside0.mk (HPF.out.trans (if_neg h8))
    clear h8
    go_upto_region 2 with (first | (go_at_call 41; refine (at_any g n _ c0).mono ?_; rintro e w' ⟨rfl, rfl⟩))
    · have hr : Raw w B g v n (pack (bs ++ [false])) := by rw [HPF2.out]; exact H.out
      have HM := Aside0.mk (Moved.refl B g w v)
      have HR := Aside0.mk hr
      clear hr c0 c1 h8'
      have HRL := Aside0.mk (pack_length (bs ++ [false]))
      have c0 : w.cell? ⟨g, 0, none⟩ = some (.int .i64 n) := blk_cell HR.out.1 0
      have c1 : w.cell? ⟨g, 1, none⟩ = some v := blk_cell HR.out.1 1
      have f0 : w.frozen? ⟨g, 0, none⟩ = false := blk_frozen HR.out.1 0
      cases one with
      | false =>
        go_wp2_with fail
        refine (on_any g n 1 _ c0 f0 (by omega) (by omega) (by omega) (by omega)).mono ?_
        rintro e w' ⟨rfl, rfl⟩
        go_wp2
        refine bodyPost_end (results_none rfl _ _ _) rfl ?_
        refine ⟨rfl, v, ?_, HM.out.set H.out.2.2 0 _⟩
        unfold WAt
        rw [List.length_append, List.length_singleton, HN.out]
        exact HR.out.count
      | true =>
        obtain ⟨x, hx, x0, x1, hp⟩ := HPT.out
        have HP := Aside0.mk hp
        obtain ⟨xs, hxs⟩ : ∃ xs, pack (bs ++ [false]) = xs := ⟨_, rfl⟩
        rw [hxs] at HR hx HP
        have hxl : xs.length = n / 8 + 1 := by rw [← hxs, HRL.out, List.length_append, List.length_singleton, HN.out]; omega
        obtain ⟨b, cap, e1, cb, fb, hBb, hbl⟩ := HR.out.2.1.place (n / 8) (by omega)
        rw [hxl] at e1
        have hxg : xs.getD (n / 8) 0 = x := by rw [List.getD_eq_getElem?_getD, hx]; rfl
        rw [hxg] at cb
        subst e1
        have HBB := Aside0.mk hBb
        obtain ⟨r, hr⟩ : ∃ r, n % 8 = r := ⟨_, rfl⟩
        have et : (n : Int).tmod 8 = (r : Int) := by rw [← hr, Int.tmod_eq_emod_of_nonneg (by omega)]; omega
        have HSH := Aside0.mk (show (128 : Int) / 2 ^ r = ((128 / 2 ^ (n % 8) : Nat) : Int) by rw [hr]; simp)
        have m0 : 0 ≤ (r : Int) := by omega
        have m1 : (r : Int) < 8 := by omega
        clear hr
        obtain ⟨j, hj⟩ : ∃ j, n / 8 = j := ⟨_, rfl⟩
        rw [hj] at cb fb c1 HP HM HR
        have e8 : IntKind.i64.wrap (j : Int) = (j : Int) := by rw [IntKind.wrap_i64]; omega
        have i0 : (0 : Int) ≤ (j : Int) := by omega
        have i1 : (j : Int) < (j : Int) + 1 := by omega
        have HJ := Aside0.mk hj
        clear hx hp hxs hxl hxg hBb hj
        go_wp2
        go_still_tail 20, (by kernel_rfl)
        still_call (at_still g n _ c0)
        repeat still_step
        refine wpStill_nil ?_
        have HR2 : Aside0 (Raw w.drew B g (.slice (some ⟨b, 0, none⟩) (j + 1) cap) n xs) := ⟨HR.out.below (below_drew (Below.refl _ _))⟩
        have HM2 : Aside0 (Moved B g w (.slice (some ⟨b, 0, none⟩) (j + 1) cap) w.drew (.slice (some ⟨b, 0, none⟩) (j + 1) cap)) := ⟨HM.out.drew⟩
        have cb2 : w.drew.cell? ⟨b, j, none⟩ = some (.int .u8 x) := cb
        have fb2 : w.drew.frozen? ⟨b, j, none⟩ = false := fb
        clear c0 c1 f0 cb fb HR HM
        change wpList _ _ _ _ _ w.drew
        generalize w.drew = wz at HR2 HM2 cb2 fb2 ⊢
        go_wp2_with fail
        have HR3 := Aside0.mk (HR2.out.byte j (Go.bits .or .u8 x (128 / 2 ^ r)))
        have HM3 := Aside0.mk (HM2.out.byte HBB.out j (.int .u8 (Go.bits .or .u8 x (128 / 2 ^ r))))
        refine (on_any g n 1 _ (blk_cell HR3.out.1 0) (blk_frozen HR3.out.1 0) (by omega) (by omega) (by omega) (by omega)).mono ?_
        rintro e w' ⟨rfl, rfl⟩
        go_wp2
        refine bodyPost_end (results_none rfl _ _ _) rfl ?_
        try rw [HJ.out]
        refine ⟨rfl, _, ?_, HM3.out.set H.out.2.2 0 _⟩
        unfold WAt
        rw [List.length_append, List.length_singleton, HN.out, HP.out, ← HSH.out]
        exact HR3.out.count
end Go.Proofs.Ytgihacaegmpggaa.Hand

/- Plain words of layer 1: the bits of a text, and what a reader gives. -/
namespace Go.Proofs.Ytgihacaegmpggaa.Hand
open Go.RowKit Go.Proofs.YtgihacaegmpggaaW.PrintWords
set_option linter.unusedVariables false
set_option linter.unusedSimpArgs false

/-- Bit q of a text; k bits from p on. -/
def tb (s : ByteArray) (q : Nat) : Bool := bitAt (bytesOf s) q
def bitsAt (s : ByteArray) (p k : Nat) : List Bool := (List.range k).map fun i => tb s (p + i)
theorem bitsAt_length (s : ByteArray) (p k : Nat) : (bitsAt s p k).length = k := by simp [bitsAt]
theorem bitsAt_snoc (s : ByteArray) (p k : Nat) : bitsAt s p (k + 1) = bitsAt s p k ++ [tb s (p + k)] := by simp [bitsAt, List.range_succ]
/-- A number of k bits. -/
def numAt (s : ByteArray) (p k : Nat) : Nat := natOf (bitsAt s p k)
theorem numAt_lt (s : ByteArray) (p k : Nat) : numAt s p k < 2 ^ k := natOf_lt k _ (bitsAt_length s p k)
theorem numAt_succ (s : ByteArray) (p k : Nat) : numAt s p (k + 1) = 2 * numAt s p k + (tb s (p + k)).toNat := by
  unfold numAt
  rw [bitsAt_snoc, natOf_snoc]
theorem bytes_get (s : ByteArray) (j : Nat) (h : j < s.size) : (bytesOf s).getD j 0 = ((s[j]'h).toNat : Int) := by
  unfold bytesOf
  rw [List.getD_eq_getElem?_getD, List.getElem?_map]
  have : s.data.toList[j]? = some (s[j]'h) := by
    rw [Array.getElem?_toList]
    exact Array.getElem?_eq_getElem h
  rw [this]
  rfl
theorem low_bit (x : Nat) (hx : x < 18446744073709551616) : Go.bits .and .u64 (x : Int) 1 = ((x.testBit 0).toNat : Int) := by
  have e : Go.bits .and .u64 (x : Int) 1 = IntKind.u64.wrap ((BitVec.ofInt 64 (x : Int) &&& BitVec.ofInt 64 1).toNat : Int) := rfl
  have e1 : (BitVec.ofInt 64 (x : Int)).toNat = x := by rw [BitVec.toNat_ofInt]; omega
  have e2 : (BitVec.ofInt 64 1).toNat = 1 := by decide
  rw [e, BitVec.toNat_and, e1, e2, Nat.and_one_is_mod, Nat.testBit_zero]
  have hm : IntKind.u64.wrap ((x % 2 : Nat) : Int) = ((x % 2 : Nat) : Int) := by
    simp only [IntKind.wrap, IntKind.bits, IntKind.signed]
    simp
    omega
  rw [hm]
  rcases Nat.mod_two_eq_zero_or_one x with h | h <;> simp [h]
theorem or_bit (n : Nat) (b : Bool) (h : 2 * n + 1 < 18446744073709551616) : Go.bits .or .u64 ((n : Int) * 2) (b.toNat : Int) = ((2 * n + b.toNat : Nat) : Int) := by
  have e : Go.bits .or .u64 ((n : Int) * 2) (b.toNat : Int) = IntKind.u64.wrap ((BitVec.ofInt 64 ((n : Int) * 2) ||| BitVec.ofInt 64 (b.toNat : Int)).toNat : Int) := rfl
  have hb : b.toNat < 2 := by cases b <;> decide
  have e1 : (BitVec.ofInt 64 ((n : Int) * 2)).toNat = n <<< 1 := by rw [BitVec.toNat_ofInt, Nat.shiftLeft_eq]; omega
  have e2 : (BitVec.ofInt 64 (b.toNat : Int)).toNat = b.toNat := by rw [BitVec.toNat_ofInt]; omega
  rw [e, BitVec.toNat_or, e1, e2, ← Nat.shiftLeft_add_eq_or_of_lt (by simpa using hb), Nat.shiftLeft_eq]
  have hm : IntKind.u64.wrap ((n * 2 ^ 1 + b.toNat : Nat) : Int) = ((n * 2 ^ 1 + b.toNat : Nat) : Int) := by
    simp only [IntKind.wrap, IntKind.bits, IntKind.signed]
    simp
    omega
  rw [hm]
  congr 1
  omega
theorem peek_bit (s : ByteArray) (q j r : Nat) (hj : j < s.size) (hq : q / 8 = j) (hr : q % 8 = r) : Go.bits .and .u64 (((s[j]'hj).toNat : Int) / 2 ^ (7 - r)) 1 = ((tb s q).toNat : Int) := by
  have hlt : (s[j]'hj).toNat < 256 := (s[j]'hj).toNat_lt
  have e : ((s[j]'hj).toNat : Int) / 2 ^ (7 - r) = (((s[j]'hj).toNat / 2 ^ (7 - r) : Nat) : Int) := by simp
  have hle : (s[j]'hj).toNat / 2 ^ (7 - r) ≤ (s[j]'hj).toNat := Nat.div_le_self _ _
  rw [e, low_bit _ (by omega)]
  unfold tb bitAt
  rw [hq, hr, bytes_get s j hj, Int.toNat_natCast, Nat.testBit_zero, ← Nat.testBit_eq_decide_div_mod_eq]
/-- What Get gives: the number, the error, the place behind it. -/
def getR (s : ByteArray) (p : Nat) (k : Int) : Nat × Int × Nat :=
  if k < 0 ∨ 64 < k then (0, 11, p) else if ((8 * s.size - p : Nat) : Int) < k then (0, 10, p) else (numAt s p k.toNat, 0, p + k.toNat)
end Go.Proofs.Ytgihacaegmpggaa.Hand

/- Contracts of layer 1, proved by hand: a reader's Of, At, Left, peek, Get. -/
namespace Go.Proofs.Ytgihacaegmpggaa.Hand
open Go.RowKit Go.Proofs.YtgihacaegmpggaaW.PrintWords Go.Proofs.YtgihacaegmpggaaW.PrintLast Go.Proofs.YtgihacaegmpggaaW.PrintMore
set_option linter.unusedVariables false
set_option linter.unusedSimpArgs false

/-- From w on to w' the block g has been turned, and nothing else. -/
structure Turned (B g : Nat) (w w' : World) : Prop where
  below : Below B w w'
  kept : Kept w w' (fun k => k = g)
theorem Turned.refl (B g : Nat) (w : World) : Turned B g w w := ⟨Below.refl _ _, Kept.refl _ _⟩
theorem Turned.trans {B g : Nat} {w w1 w2 : World} (h : Turned B g w w1) (k : Turned B g w1 w2) : Turned B g w w2 := ⟨h.below.trans k.below, h.kept.then_ k.kept (fun _ h => .inl h)⟩
theorem Turned.set {B g : Nat} {w w1 : World} (h : Turned B g w w1) (hB : B ≤ g) (j : Nat) (u : Value) : Turned B g w (w1.setCell ⟨g, j, none⟩ u) := ⟨h.below.setCell hB u, h.kept.setCell (p := ⟨g, j, none⟩) (.inl rfl) u⟩
theorem Turned.drew {B g : Nat} {w w1 : World} (h : Turned B g w w1) : Turned B g w w1.drew := ⟨below_drew h.below, h.kept.drew⟩
theorem Turned.drewN {B g : Nat} {w w1 : World} (h : Turned B g w w1) (m : Nat) : Turned B g w (w1.drewN m) := ⟨pw_below_drewN h.below m, h.kept.drewN m⟩
theorem Turned.drawn {B g : Nat} {w w1 w2 : World} (h : Turned B g w w1) (k : Drawn0 w1 w2) : Turned B g w w2 := by
  obtain ⟨m, rfl⟩ := k
  exact h.drewN m
theorem Turned.new {B g : Nat} {w w1 w2 : World} (h : Turned B g w w1) (k : Below w1.heap.size w1 w2) (hB : B ≤ w1.heap.size) : Turned B g w w2 :=
  ⟨h.below.trans (k.mono hB), h.kept.below k⟩
/-- A reader in block g: its place, its text. -/
def RAt (w : World) (g : Nat) (s : ByteArray) (p : Nat) : Prop := w.heap[g]? = some (.cells #[.int .i64 p, .string s] 80 (0, 0))
theorem RAt.below {w w' : World} {g p : Nat} {s : ByteArray} (h : RAt w g s p) (hb : Below w.heap.size w w') : RAt w' g s p := blk_below h hb
theorem RAt.drawn {w w' : World} {g p : Nat} {s : ByteArray} (h : RAt w g s p) (k : Drawn0 w w') : RAt w' g s p := by
  obtain ⟨m, rfl⟩ := k
  exact h.below (pw_below_drewN (Below.refl _ _) m)
theorem RAt.lt {w : World} {g p : Nat} {s : ByteArray} (h : RAt w g s p) : g < w.heap.size := blk_lt h
theorem RAt.place {w : World} {g p : Nat} {s : ByteArray} (h : RAt w g s p) : w.cell? ⟨g, 0, none⟩ = some (.int .i64 p) := blk_cell h 0
theorem RAt.text {w : World} {g p : Nat} {s : ByteArray} (h : RAt w g s p) : w.cell? ⟨g, 1, none⟩ = some (.string s) := blk_cell h 1
theorem RAt.to {w : World} {g p q : Nat} {s : ByteArray} (h : RAt w g s p) : RAt (w.setCell ⟨g, 0, none⟩ (.int .i64 q)) g s q := blk_put h 0 _ rfl
set_option maxHeartbeats 1000000 in
theorem Of_any (s : ByteArray) (w : World) : Calls Try.prog 20 #[.string s] w fun e w' => e = .returned (.pointer (some ⟨w.heap.size, 0, none⟩)) ∧ w' = w.alloc (.cells #[.int .i64 0, .string s] 80) := by
  go_enter Try.func20, Try.ntmps20
  go_wp2
  go_ret
  exact ⟨rfl, rfl⟩
theorem of_at (s : ByteArray) (w : World) : RAt (w.alloc (.cells #[.int .i64 0, .string s] 80)) w.heap.size s 0 := blk_new w _
set_option maxHeartbeats 2000000 in
theorem Left_any (s : ByteArray) (hs : s.size ≤ 281474976710656) (p g : Nat) (hp : p ≤ 8 * s.size) (w : World) (h : RAt w g s p) : Calls Try.prog 39 #[.pointer (some ⟨g, 0, none⟩)] w fun e w' => e = .returned (.int .i64 ((8 * s.size - p : Nat) : Int)) ∧ Drawn0 w w' := by
  have hup := Try.underlying51
  have c0 := h.place
  have c1 := h.text
  have e1 : IntKind.i64.wrap (8 * (s.size : Int)) = 8 * (s.size : Int) := by rw [IntKind.wrap_i64]; omega
  have e2 : IntKind.i64.wrap (8 * (s.size : Int) - (p : Int)) = ((8 * s.size - p : Nat) : Int) := by rw [IntKind.wrap_i64]; omega
  clear h
  go_enter Try.func39, Try.ntmps39
  go_wp2
  go_quiet (first | (go_at_call 41; exact Calls.quiet_of_same (at_still g _ _ (by exact c0))))
  go_wp2
  go_ret
  exact ⟨rfl, ⟨_, rfl⟩⟩
set_option maxHeartbeats 2000000 in
theorem peek_any (s : ByteArray) (p q g : Nat) (hq : q < 8 * s.size) (hs : s.size ≤ 281474976710656) (w : World) (h : RAt w g s p) : Calls Try.prog 40 #[.pointer (some ⟨g, 0, none⟩), .int .i64 q] w fun e w' => e = .returned (.int .u64 ((tb s q).toNat : Int)) ∧ Drawn0 w w' := by
  have hup := Try.underlying51
  have c1 := h.text
  obtain ⟨j, hj⟩ : ∃ j, q / 8 = j := ⟨_, rfl⟩
  obtain ⟨r, hr⟩ : ∃ r, q % 8 = r := ⟨_, rfl⟩
  have hjl : j < s.size := by omega
  have hb := peek_bit s q j r hjl hj hr
  generalize tb s q = one at hb ⊢
  have e4 : IntKind.u64.wrap (((s[j]'hjl).toNat : Int) / 2 ^ (7 - r)) = ((s[j]'hjl).toNat : Int) / 2 ^ (7 - r) := by
    have hlt : (s[j]'hjl).toNat < 256 := (s[j]'hjl).toNat_lt
    have e : ((s[j]'hjl).toNat : Int) / 2 ^ (7 - r) = (((s[j]'hjl).toNat / 2 ^ (7 - r) : Nat) : Int) := by simp
    have hle : (s[j]'hjl).toNat / 2 ^ (7 - r) ≤ (s[j]'hjl).toNat := Nat.div_le_self _ _
    rw [e]
    generalize (s[j]'hjl).toNat / 2 ^ (7 - r) = y at hle
    rw [u64_wrap]
    omega
  have e1 : (q : Int) / 8 = (j : Int) := by omega
  have e2 : (q : Int) % 8 = (r : Int) := by omega
  have e3 : (7 - (r : Int)).toNat = 7 - r := by omega
  have i0 : (0 : Int) ≤ (j : Int) := by omega
  have i1 : (j : Int) < (s.size : Int) := by omega
  have i2 : 0 ≤ 7 - (r : Int) := by omega
  have i3 : 7 - (r : Int) < 8 := by omega
  clear h hj hr
  go_enter Try.func40, Try.ntmps40
  go_wp2
  go_ret
  exact ⟨rfl, Drawn0.refl _⟩
end Go.Proofs.Ytgihacaegmpggaa.Hand

/- Contracts of layer 1, proved by hand: a reader's Get. -/
namespace Go.Proofs.Ytgihacaegmpggaa.Hand
open Go.RowKit Go.Proofs.YtgihacaegmpggaaW.PrintWords Go.Proofs.YtgihacaegmpggaaW.PrintLast Go.Proofs.YtgihacaegmpggaaW.PrintMore
set_option linter.unusedVariables false
set_option linter.unusedSimpArgs false

set_option maxHeartbeats 2000000 in
set_option maxRecDepth 100000 in
theorem Get_any (s : ByteArray) (hs : s.size ≤ 281474976710656) (p : Nat) (hp : p ≤ 8 * s.size) (k : Int) (B g : Nat) (hB : B ≤ g) (w : World) (h : RAt w g s p) :
    Calls Try.prog 22 #[.pointer (some ⟨g, 0, none⟩), .int .i64 k] w fun e w' => e = .returned (.tuple #[.int .u64 (getR s p k).1, .int .i64 (getR s p k).2.1]) ∧ RAt w' g s (getR s p k).2.2 ∧ Turned B g w w' := by
  have hup := Try.underlying51
  have HR := Aside0.mk h
  clear h
  by_cases h1 : k < 0
  · have he : getR s p k = (0, 11, p) := if_pos (.inl h1)
    rw [he]
    clear he
    go_enter Try.func22, Try.ntmps22
    go_wp2
    go_ret2
    exact ⟨rfl, HR.out, Turned.refl _ _ _⟩
  · by_cases h2 : 64 < k
    · have he : getR s p k = (0, 11, p) := if_pos (.inr h2)
      rw [he]
      clear he
      go_enter Try.func22, Try.ntmps22
      go_wp2
      go_ret2
      exact ⟨rfl, HR.out, Turned.refl _ _ _⟩
    · obtain ⟨K, rfl⟩ : ∃ K : Nat, k = (K : Int) := ⟨k.toNat, by omega⟩
      have HL := Aside0.mk (Left_any s hs p g hp w HR.out)
      obtain ⟨L, hL⟩ : ∃ L : Int, ((8 * s.size - p : Nat) : Int) = L := ⟨_, rfl⟩
      rw [hL] at HL
      by_cases h3 : L < (K : Int)
      · have he : getR s p K = (0, 10, p) := by unfold getR; rw [if_neg (by omega), if_pos (by rw [hL]; exact h3)]
        rw [he]
        clear he hL
        go_enter Try.func22, Try.ntmps22
        go_wp2_with fail
        refine HL.out.mono ?_
        rintro e w1 ⟨rfl, hd⟩
        have HD := Aside0.mk hd
        clear hd
        go_wp2
        go_ret2
        exact ⟨rfl, HR.out.drawn HD.out, (Turned.refl B g w).drawn HD.out⟩
      · have he : getR s p K = (numAt s p K, 0, p + K) := by unfold getR; rw [if_neg (by omega), if_neg (by rw [hL]; exact h3)]; rfl
        rw [he]
        have HSZ := Aside0.mk (show p + K ≤ 8 * s.size by omega)
        have hp1 : p ≤ 2251799813685248 := by omega
        have hK1 : K ≤ 64 := by omega
        have HLL := Aside0.mk hL
        clear he hL h1 h2
        go_enter Try.func22, Try.ntmps22
        go_wp2_with fail
        refine HL.out.mono ?_
        rintro e w1 ⟨rfl, hd⟩
        have HR1 := Aside0.mk (HR.out.drawn hd)
        have HT1 := Aside0.mk ((Turned.refl B g w).drawn hd)
        clear hd
        go_wp2
        go_loopg [6, 24] K (fun gk n i wr => ∃ d : Nat, d + gk = K ∧ i = .int .i64 d ∧ n = .int .u64 (numAt s p d) ∧ Aside0 (RAt wr g s p) ∧ Aside0 (Turned B g w wr))
        case atStart => exact ⟨0, by omega, rfl, rfl, HR1, HT1⟩
        case round =>
          obtain ⟨d, hdk, rfl, rfl, HR2, HT2⟩ := hrel
          have c0 := HR2.out.place
          cases gk with
          | zero =>
            obtain rfl : d = K := by omega
            have f0 := blk_frozen HR2.out 0
            go_wp2_with fail
            refine (on_any g p d wr c0 f0 (by omega) (by omega) (by omega) (by omega)).mono ?_
            rintro e w2 ⟨rfl, rfl⟩
            go_wp2
            go_ret2
            refine ⟨rfl, ?_, HT2.out.set hB 0 _⟩
            exact_mod_cast HR2.out.to (q := p + d)
          | succ gk =>
            have i1 : (d : Int) < (K : Int) := by omega
            have hlt : numAt s p d < 9223372036854775808 := Nat.lt_of_lt_of_le (numAt_lt s p d) (by
              have : d ≤ 63 := by omega
              exact Nat.pow_le_pow_right (by decide) this)
            have hor := or_bit (numAt s p d) (tb s (p + d)) (by omega)
            have hnx := numAt_succ s p d
            rw [← hnx] at hor
            have HPK := Aside0.mk (fun W hW => peek_any s p (p + d) g (by have := HSZ.out; omega) hs W hW)
            generalize tb s (p + d) = one at hor HPK hnx
            clear hnx
            obtain ⟨n2, hn2⟩ : ∃ n2, numAt s p (d + 1) = n2 := ⟨_, rfl⟩
            rw [hn2] at hor
            have HN2 := Aside0.mk hn2
            clear hn2
            generalize numAt s p d = n1 at hlt hor
            obtain ⟨q, hq⟩ : ∃ q, p + d = q := ⟨_, rfl⟩
            rw [hq] at HPK
            have eq1 : (p : Int) + (d : Int) = (q : Int) := by omega
            have hq2 : q ≤ 4503599627370496 := by omega
            clear hq
            go_wp2_with fail
            refine (at_any g _ _ c0).mono ?_
            rintro e w2 ⟨rfl, rfl⟩
            go_wp2_with fail
            refine (HPK.out _ HR2.out).mono ?_
            rintro e w3 ⟨rfl, hd⟩
            have HR3 := Aside0.mk (HR2.out.drawn hd)
            have HT3 := Aside0.mk (HT2.out.drawn hd)
            clear hd
            go_wp2
            go_roundg gk
            case measure => omega
            case rel => exact ⟨d + 1, by omega, by go_num, by rw [HN2.out], HR3, HT3⟩
end Go.Proofs.Ytgihacaegmpggaa.Hand

/- Printed by a program of ours (pp.sh), partly over contracts proved by hand. -/
namespace Go.Proofs.Ytgihacaegmpggaa.Q
open Go.RowKit Go.Proofs.YtgihacaegmpggaaW.PrintWords Go.Proofs.YtgihacaegmpggaaW.PrintLast Go.Proofs.YtgihacaegmpggaaW.PrintMore
attribute [local go_sem] max2_int min2_int max_two min_two max_three min_three max_four min_four   -- for this text's walks alone
set_option linter.unusedVariables false
set_option linter.unusedSimpArgs false

def errW : Option Int → Value
  | none => .nilIface
  | some c => .iface 0 (.int .i64 c)
theorem errW_none : errW none = .nilIface := rfl
theorem errW_some (c : Int) : errW (some c) = .iface 0 (.int .i64 c) := rfl

theorem info5 : (Try.prog.info? 5).map (fun i => (i.zero, i.size, i.bytes)) = some (some (.int .u8 0), 1, 1) := by kernel_rfl
theorem info9 : (Try.prog.info? 9).map (fun i => (i.zero, i.size, i.bytes)) = some (some (.string ⟨#[]⟩), 1, 16) := by kernel_rfl
-- the values' own types
/-! #### struct type 36 -/
structure S36 where
  f0 : Int
  f1 : ByteArray
def z36 : S36 := ⟨(0 : Int), (⟨#[]⟩ : ByteArray)⟩
def k36 : Kd S36 := Kd.iso (Kd.pair (Kd.int .i64) Kd.string) (fun x : S36 => (x.f0, x.f1))
theorem k36_open {w : World} {x : S36} {cs : List Value} (h : k36.K w x cs) : cs = [.int .i64 x.f0, .string x.f1] := by
  obtain ⟨_, _, rfl, rfl, rfl⟩ := h
  exact rfl
theorem k36_mkM (w : World) (base : Nat) (ok : Nat → Prop) (x : S36)  : k36.M w base ok x [.int .i64 x.f0, .string x.f1] := ⟨[.int .i64 x.f0], [.string x.f1], rfl, rfl, rfl⟩
def rd_T36 (xs : List S36) (i : Int) : S36 := xs.getD i.toNat z36
theorem at_T36 {w : World} {A : Option Addr} {n : Nat} {xs : List S36} (h : Kd.C k36 w A n xs) (i : Int) (h0 : 0 ≤ i) (h1 : i < n) : ∃ ad , A = some ad ∧ w.cell? (ad.add (i.toNat * 2)) = some (.int .i64 (rd_T36 xs i).f0) ∧ w.cell? ⟨(ad.add (i.toNat * 2)).block, (ad.add (i.toNat * 2)).off + 1, none⟩ = some (.string (rd_T36 xs i).f1) := by
  obtain ⟨ad, c, e, _, hK, hc0⟩ := Kd.C_get h z36 i h0 h1
  have hc : ∀ j u, c[j]? = some u → w.cell? (ad.add (i.toNat * 2 + j)) = some u := hc0
  obtain rfl := k36_open hK
  exact ⟨ad, e, hc 0 _ rfl, by rw [← add_field _ _ 1 (by omega)]; exact hc 1 _ rfl⟩

end Go.Proofs.Ytgihacaegmpggaa.Q

/- Printed by a program of ours (pp.sh), partly over contracts proved by hand. -/
namespace Go.Proofs.Ytgihacaegmpggaa.Q
open Go.RowKit Go.Proofs.YtgihacaegmpggaaW.PrintWords Go.Proofs.YtgihacaegmpggaaW.PrintLast Go.Proofs.YtgihacaegmpggaaW.PrintMore
attribute [local go_sem] max2_int min2_int max_two min_two max_three min_three max_four min_four   -- for this text's walks alone
set_option linter.unusedVariables false
set_option linter.unusedSimpArgs false

/-- A state of type 80 at block g of W; what its slices lead to came in by w0. -/
def IsS80 (w0 W : World) (g : Nat) (f0 : Int) (f1 : ByteArray) : Prop := W.heap[g]? = some (.cells #[.int .i64 f0, .string f1] 80 (0, 0)) ∧ w0.heap.size ≤ g
theorem IsS80.grown {w0 W : World} {g : Nat} {f0 : Int} {f1 : ByteArray} {W1 : World} {row : Option Nat} (h : IsS80 w0 W g f0 f1) (hw : W.grownBy W1 row) (hne : some g ≠ row) : IsS80 w0 W1 g f0 f1 := by
  obtain ⟨hb, hg⟩ := h
  exact ⟨blk_grown hb hw hne, hg⟩
theorem IsS80.kept {w0 W : World} {g : Nat} {f0 : Int} {f1 : ByteArray} {W1 : World} {S : Nat → Prop} (h : IsS80 w0 W g f0 f1) (hk : Kept W W1 S) (hne : ¬ S g) : IsS80 w0 W1 g f0 f1 := by
  obtain ⟨hb, hg⟩ := h
  exact ⟨blk_kept hb hk hne, hg⟩
theorem IsS80.below {w0 W : World} {g : Nat} {f0 : Int} {f1 : ByteArray} {W1 : World} (h : IsS80 w0 W g f0 f1) (hw : Below W.heap.size W W1) : IsS80 w0 W1 g f0 f1 := h.grown (grown_of_below hw none) (by simp)
theorem IsS80.alloc {w0 W : World} {g : Nat} {f0 : Int} {f1 : ByteArray} (h : IsS80 w0 W g f0 f1) (o : Obj) : IsS80 w0 (W.alloc o) g f0 f1 := h.below (below_alloc (Below.refl _ _) o)
theorem IsS80.drewN {w0 W : World} {g : Nat} {f0 : Int} {f1 : ByteArray} (h : IsS80 w0 W g f0 f1) (m : Nat) : IsS80 w0 (W.drewN m) g f0 f1 := h
theorem IsS80.drew {w0 W : World} {g : Nat} {f0 : Int} {f1 : ByteArray} (h : IsS80 w0 W g f0 f1) : IsS80 w0 W.drew g f0 f1 := h
theorem IsS80.at_ {w0 W : World} {g : Nat} {f0 : Int} {f1 : ByteArray} {w' : World} {m : Nat} (hq : W.drewN m = w') (h : IsS80 w0 W g f0 f1) : IsS80 w0 w' g f0 f1 := by subst hq; exact IsS80.drewN h m
theorem IsS80.apart {w0 W : World} {g : Nat} {f0 : Int} {f1 : ByteArray} {α : Type} {d : Kd α} {e : Nat} {base : Nat} {ok : Nat → Prop} {v : Value} {xs : List α} (h : IsS80 w0 W g f0 f1) (ho : d.R e W base ok v xs) (ht : ∀ q, q ∈ e :: d.E → q ≠ 80) : d.R e W base (fun k => ok k ∧ k ≠ g) v xs := by
  obtain ⟨hb, hg⟩ := h
  exact Kd.R_types ho hb ht
theorem IsS80.own_ne {w0 W : World} {g : Nat} {f0 : Int} {f1 : ByteArray} {α : Type} {d : Kd α} {e : Nat} {base : Nat} {ok : Nat → Prop} {v : Value} {xs : List α} (h : IsS80 w0 W g f0 f1) (ho : d.R e W base ok v xs) (ht : e ≠ 80) : some g ≠ v.ownBlock := by
  obtain ⟨hb, hg⟩ := h
  exact Kd.R_ne ho hb ht
theorem IsS80.lt {w0 W : World} {g : Nat} {f0 : Int} {f1 : ByteArray} (h : IsS80 w0 W g f0 f1) : g < W.heap.size := by
  obtain ⟨hb, hg⟩ := h
  exact blk_lt hb
theorem IsS80.ge {w0 W : World} {g : Nat} {f0 : Int} {f1 : ByteArray} (h : IsS80 w0 W g f0 f1) : w0.heap.size ≤ g := by
  obtain ⟨hb, hg⟩ := h
  exact hg
theorem IsS80.set_0 {w0 W : World} {g : Nat} {f0 : Int} {f1 : ByteArray} (h : IsS80 w0 W g f0 f1) (x : Int) : IsS80 w0 (W.setCell ⟨g, 0, none⟩ (.int .i64 x)) g x f1 := by
  obtain ⟨hb, hg⟩ := h
  exact ⟨by simpa using blk_set hb 0 (.int .i64 x), hg⟩
theorem IsS80.set_1 {w0 W : World} {g : Nat} {f0 : Int} {f1 : ByteArray} (h : IsS80 w0 W g f0 f1) (x : ByteArray) : IsS80 w0 (W.setCell ⟨g, 1, none⟩ (.string x)) g f0 x := by
  obtain ⟨hb, hg⟩ := h
  exact ⟨by simpa using blk_set hb 1 (.string x), hg⟩
theorem IsS80.new (w0 W : World) (f0 : Int) (f1 : ByteArray) (hB : Below w0.heap.size w0 W) : IsS80 w0 (W.alloc (.cells #[.int .i64 f0, .string f1] 80)) W.heap.size f0 f1 := ⟨by simpa using heap_alloc_new W _, hB.size⟩

/-! ### meta_wide: function 21 -/
def meta_wide.f  : Option (List Int) := some (([16, 16, 24, 24, 20, 3, 5, 36] : List Int))
set_option maxHeartbeats 8000000 in
set_option maxRecDepth 100000 in
theorem meta_wide.calls  (r : List Int) (w : World) (h : meta_wide.f  = some r) :
    Calls Try.prog 21 #[] w fun e w' => ∃ v0_ : Value, e = .returned (v0_) ∧ Kd.R (Kd.int .i64) 3 w' w.heap.size (fun _ => True) v0_ r ∧ Below w.heap.size w w' := by
  have HB := Aside0.mk (Below.refl w.heap.size w)
  have H : (some (([16, 16, 24, 24, 20, 3, 5, 36] : List Int))) = some r := h
  clear h
  obtain ⟨y102, hy102⟩ : ∃ y_ : List Int, y_ = (([16, 16, 24, 24, 20, 3, 5, 36] : List Int)) := ⟨_, rfl⟩
  replace H : (some y102) = some r := by first | (rw [hy102]; with_reducible exact H) | (have H2_ := (Option.bind_some _ _).symm.trans H; rw [hy102]; with_reducible exact H2_) | (have H2_ := (Option.bind_some _ _).symm.trans H; with_reducible exact H2_) | with_reducible exact H | (rw [hy102]; exact H) | exact H
  have Ny102 := Aside0.mk hy102
  clear hy102
  obtain rfl := Option.some.inj H
  go_enter Try.func21, Try.ntmps21
  go_wp2_with (first | ((with_reducible refine gate_dst (N := 1) rfl ?_); refine Kd.R_lit (Kd.int .i64) _ 3 ?hg (N := 1) ?hd (xs := ([16, 16, 24, 24, 20, 3, 5, 36] : List Int)) (inner := [.int .i64 16, .int .i64 16, .int .i64 24, .int .i64 24, .int .i64 20, .int .i64 3, .int .i64 5, .int .i64 36]) (ok := fun _ => True) (okp := fun _ => True) ?hr ?hp (fun _ hk => hk) trivial (Below.refl _ _) (Nat.le_refl _) (by simp) ?_; (case hd => rfl); (case hg => rfl); (case hr => first | (go_simp; done) | (go_simp; rfl)); (case hp => exact (Reps.one (show Kd.M (Kd.int .i64) _ _ _ 16 [.int .i64 16] from rfl) (Reps.one (show Kd.M (Kd.int .i64) _ _ _ 16 [.int .i64 16] from rfl) (Reps.one (show Kd.M (Kd.int .i64) _ _ _ 24 [.int .i64 24] from rfl) (Reps.one (show Kd.M (Kd.int .i64) _ _ _ 24 [.int .i64 24] from rfl) (Reps.one (show Kd.M (Kd.int .i64) _ _ _ 20 [.int .i64 20] from rfl) (Reps.one (show Kd.M (Kd.int .i64) _ _ _ 3 [.int .i64 3] from rfl) (Reps.one (show Kd.M (Kd.int .i64) _ _ _ 5 [.int .i64 5] from rfl) (Reps.one (show Kd.M (Kd.int .i64) _ _ _ 36 [.int .i64 36] from rfl) (Reps.none _ _)))))))))); intro v103 w1 ho2 hb hg_ hnew_; clear hg_ hnew_; (first | rw [← Ny102.out] at ho2 | (simp only [Int.reduceToNat] at ho2; rw [← Ny102.out] at ho2)); have n0_ := Aside0.mk (Kd.R_lower ho2 (below_size (by repeat (first | (with_reducible first | exact HB.out | apply below_alloc | apply pw_below_drewN | apply below_drew1) | exact HB.out)))); have n1_ := Aside0.mk (below_step (by repeat (first | (with_reducible first | exact HB.out | apply below_alloc | apply pw_below_drewN | apply below_drew1) | exact HB.out)) hb); clear HB; have HO104 := n0_; have HB := n1_; clear n0_ n1_; clear hb ho2))
  go_ret
  exact ⟨_, by first | rfl | (simp [errW_none, errW_some] <;> rfl) | (simp [*, errW_none, errW_some] <;> rfl), by (with_reducible repeat (first | apply Kd.R_alloc | apply Kd.R_drewN | apply Kd.R_drew)); exact HO104.out, by repeat (first | (with_reducible first | exact HB.out | apply below_alloc | apply pw_below_drewN | apply below_drew1) | exact HB.out)⟩

/-! ### bits_Reader_peek: function 40 -/

/-- A state of type 60 at block g of W; what its slices lead to came in by w0. -/
def IsS60 (w0 W : World) (g : Nat) (f0 : ByteArray) (f1 : Int) : Prop := W.heap[g]? = some (.cells #[.string f0, .int .i64 f1] 60 (0, 0)) ∧ w0.heap.size ≤ g
theorem IsS60.grown {w0 W : World} {g : Nat} {f0 : ByteArray} {f1 : Int} {W1 : World} {row : Option Nat} (h : IsS60 w0 W g f0 f1) (hw : W.grownBy W1 row) (hne : some g ≠ row) : IsS60 w0 W1 g f0 f1 := by
  obtain ⟨hb, hg⟩ := h
  exact ⟨blk_grown hb hw hne, hg⟩
theorem IsS60.kept {w0 W : World} {g : Nat} {f0 : ByteArray} {f1 : Int} {W1 : World} {S : Nat → Prop} (h : IsS60 w0 W g f0 f1) (hk : Kept W W1 S) (hne : ¬ S g) : IsS60 w0 W1 g f0 f1 := by
  obtain ⟨hb, hg⟩ := h
  exact ⟨blk_kept hb hk hne, hg⟩
theorem IsS60.below {w0 W : World} {g : Nat} {f0 : ByteArray} {f1 : Int} {W1 : World} (h : IsS60 w0 W g f0 f1) (hw : Below W.heap.size W W1) : IsS60 w0 W1 g f0 f1 := h.grown (grown_of_below hw none) (by simp)
theorem IsS60.alloc {w0 W : World} {g : Nat} {f0 : ByteArray} {f1 : Int} (h : IsS60 w0 W g f0 f1) (o : Obj) : IsS60 w0 (W.alloc o) g f0 f1 := h.below (below_alloc (Below.refl _ _) o)
theorem IsS60.drewN {w0 W : World} {g : Nat} {f0 : ByteArray} {f1 : Int} (h : IsS60 w0 W g f0 f1) (m : Nat) : IsS60 w0 (W.drewN m) g f0 f1 := h
theorem IsS60.drew {w0 W : World} {g : Nat} {f0 : ByteArray} {f1 : Int} (h : IsS60 w0 W g f0 f1) : IsS60 w0 W.drew g f0 f1 := h
theorem IsS60.at_ {w0 W : World} {g : Nat} {f0 : ByteArray} {f1 : Int} {w' : World} {m : Nat} (hq : W.drewN m = w') (h : IsS60 w0 W g f0 f1) : IsS60 w0 w' g f0 f1 := by subst hq; exact IsS60.drewN h m
theorem IsS60.apart {w0 W : World} {g : Nat} {f0 : ByteArray} {f1 : Int} {α : Type} {d : Kd α} {e : Nat} {base : Nat} {ok : Nat → Prop} {v : Value} {xs : List α} (h : IsS60 w0 W g f0 f1) (ho : d.R e W base ok v xs) (ht : ∀ q, q ∈ e :: d.E → q ≠ 60) : d.R e W base (fun k => ok k ∧ k ≠ g) v xs := by
  obtain ⟨hb, hg⟩ := h
  exact Kd.R_types ho hb ht
theorem IsS60.own_ne {w0 W : World} {g : Nat} {f0 : ByteArray} {f1 : Int} {α : Type} {d : Kd α} {e : Nat} {base : Nat} {ok : Nat → Prop} {v : Value} {xs : List α} (h : IsS60 w0 W g f0 f1) (ho : d.R e W base ok v xs) (ht : e ≠ 60) : some g ≠ v.ownBlock := by
  obtain ⟨hb, hg⟩ := h
  exact Kd.R_ne ho hb ht
theorem IsS60.lt {w0 W : World} {g : Nat} {f0 : ByteArray} {f1 : Int} (h : IsS60 w0 W g f0 f1) : g < W.heap.size := by
  obtain ⟨hb, hg⟩ := h
  exact blk_lt hb
theorem IsS60.ge {w0 W : World} {g : Nat} {f0 : ByteArray} {f1 : Int} (h : IsS60 w0 W g f0 f1) : w0.heap.size ≤ g := by
  obtain ⟨hb, hg⟩ := h
  exact hg
theorem cellS60_0 {W : World} {g : Nat} {f0 : ByteArray} {f1 : Int} (h : W.heap[g]? = some (.cells #[.string f0, .int .i64 f1] 60 (0, 0))) : W.cell? ⟨g, 0, none⟩ = some (.string f0) := (blk_cell h 0).trans rfl
theorem IsS60.set_0 {w0 W : World} {g : Nat} {f0 : ByteArray} {f1 : Int} (h : IsS60 w0 W g f0 f1) (x : ByteArray) : IsS60 w0 (W.setCell ⟨g, 0, none⟩ (.string x)) g x f1 := by
  obtain ⟨hb, hg⟩ := h
  exact ⟨by simpa using blk_set hb 0 (.string x), hg⟩
theorem cellS60_1 {W : World} {g : Nat} {f0 : ByteArray} {f1 : Int} (h : W.heap[g]? = some (.cells #[.string f0, .int .i64 f1] 60 (0, 0))) : W.cell? ⟨g, 1, none⟩ = some (.int .i64 f1) := (blk_cell h 1).trans rfl
theorem IsS60.set_1 {w0 W : World} {g : Nat} {f0 : ByteArray} {f1 : Int} (h : IsS60 w0 W g f0 f1) (x : Int) : IsS60 w0 (W.setCell ⟨g, 1, none⟩ (.int .i64 x)) g f0 x := by
  obtain ⟨hb, hg⟩ := h
  exact ⟨by simpa using blk_set hb 1 (.int .i64 x), hg⟩
theorem IsS60.new (w0 W : World) (f0 : ByteArray) (f1 : Int) (hB : Below w0.heap.size w0 W) : IsS60 w0 (W.alloc (.cells #[.string f0, .int .i64 f1] 60)) W.heap.size f0 f1 := ⟨by simpa using heap_alloc_new W _, hB.size⟩

/-! ### lacquerref01_R_Left: function 43 -/
def lacquerref01_R_Left.f (s0_0 : ByteArray) (s0_1 : Int) : Option (Int × ByteArray × Int) := some (wrap64 ((wrap64 ((s0_0.size : Int) * 8)) - s0_1), s0_0, s0_1)
set_option maxHeartbeats 8000000 in
set_option maxRecDepth 100000 in
theorem lacquerref01_R_Left.calls (g : Nat) (s0_0 : ByteArray) (s0_1 : Int) (r1 : Int) (r2 : ByteArray) (r3 : Int) (w0 w : World) (hI : IsS60 w0 w g s0_0 s0_1) (hB : Below w0.heap.size w0 w) (h : lacquerref01_R_Left.f s0_0 s0_1 = some (r1, r2, r3)) :
    Calls Try.prog 43 #[.pointer (some ⟨g, 0, none⟩)] w fun e w' => e = .returned (.int .i64 r1) ∧ IsS60 w0 w' g r2 r3 ∧ Below w0.heap.size w0 w' ∧ KeepBut w w' g none := by
  have HI0 := Aside0.mk hI
  have HK := Aside0.mk (KeepBut.refl w g none)
  have HL := Aside0.mk hB.size
  clear hI
  have HW0 := Aside0.mk hB.size
  have HB := Aside0.mk hB
  clear hB
  have H : (some (wrap64 ((wrap64 ((s0_0.size : Int) * 8)) - s0_1), s0_0, s0_1)) = some (r1, r2, r3) := h
  clear h
  simp only [Option.some.injEq, Prod.mk.injEq] at H
  obtain ⟨rfl, rfl, rfl⟩ := H
  obtain ⟨HGz2, hgz2⟩ := HI0.out
  have hcz2_0 := cellS60_0 HGz2
  have hcz2_1 := cellS60_1 HGz2
  have hfz2_0 := blk_frozen HGz2 0
  have hfz2_1 := blk_frozen HGz2 1
  clear HGz2 hgz2
  go_enter Try.func43, Try.ntmps43
  go_wp2
  repeat (go_quiet (fail); try go_wp2)
  go_ret
  exact ⟨by first | rfl | (simp [errW_none, errW_some] <;> rfl) | (simp [*, errW_none, errW_some] <;> rfl), by repeat (first | (with_reducible first | exact HI0.out | apply IsS60.alloc | apply IsS60.drewN | apply IsS60.drew | apply IsS60.set_0 | apply IsS60.set_1) | exact HI0.out), by repeat (first | (with_reducible first | exact HB.out | apply below_alloc | apply pw_below_drewN | apply below_drew1 | refine below_set ?_ (IsS60.ge HI0.out)) | exact HB.out), by repeat (first | (with_reducible first | exact HK.out | apply KeepBut.set_ | apply keep_drewN | apply keep_drew | apply keep_alloc) | exact HK.out)⟩

/-! ### lacquerref01_R_bit: function 44 -/
def lacquerref01_R_bit.f (s0_0 : ByteArray) (s0_1 : Int) (a1 : Int) : Option (Int × ByteArray × Int) := if 0 ≤ (wrap64 (Int.tdiv a1 8)) then (if (wrap64 (Int.tdiv a1 8)) < (s0_0.size : Int) then (if 0 ≤ (IntKind.u64.wrap (wrap64 (7 - (Int.tmod a1 8)))) then (some (Go.bits .and .i64 (wrap64 (shr .u8 (bt s0_0 (wrap64 (Int.tdiv a1 8))) (IntKind.u64.wrap (wrap64 (7 - (Int.tmod a1 8)))))) 1, s0_0, s0_1)) else (none)) else (none)) else (none)
set_option maxHeartbeats 8000000 in
set_option maxRecDepth 100000 in
theorem lacquerref01_R_bit.calls (g : Nat) (s0_0 : ByteArray) (s0_1 : Int) (a1 : Int) (r1 : Int) (r2 : ByteArray) (r3 : Int) (w0 w : World) (hI : IsS60 w0 w g s0_0 s0_1) (hB : Below w0.heap.size w0 w) (h : lacquerref01_R_bit.f s0_0 s0_1 a1 = some (r1, r2, r3)) :
    Calls Try.prog 44 #[.pointer (some ⟨g, 0, none⟩), .int .i64 a1] w fun e w' => e = .returned (.int .i64 r1) ∧ IsS60 w0 w' g r2 r3 ∧ Below w0.heap.size w0 w' ∧ KeepBut w w' g none := by
  have HI0 := Aside0.mk hI
  have HK := Aside0.mk (KeepBut.refl w g none)
  have HL := Aside0.mk hB.size
  clear hI
  have HW0 := Aside0.mk hB.size
  have HB := Aside0.mk hB
  clear hB
  have H : (if 0 ≤ (wrap64 (Int.tdiv a1 8)) then (if (wrap64 (Int.tdiv a1 8)) < (s0_0.size : Int) then (if 0 ≤ (IntKind.u64.wrap (wrap64 (7 - (Int.tmod a1 8)))) then (some (Go.bits .and .i64 (wrap64 (shr .u8 (bt s0_0 (wrap64 (Int.tdiv a1 8))) (IntKind.u64.wrap (wrap64 (7 - (Int.tmod a1 8)))))) 1, s0_0, s0_1)) else (none)) else (none)) else (none)) = some (r1, r2, r3) := h
  clear h
  obtain ⟨ji3, hji3⟩ : ∃ j_ : Int, (wrap64 (Int.tdiv a1 8)) = j_ := ⟨_, rfl⟩
  replace H : (if 0 ≤ (ji3) then (if (ji3) < (s0_0.size : Int) then (if 0 ≤ (IntKind.u64.wrap (wrap64 (7 - (Int.tmod a1 8)))) then (some (Go.bits .and .i64 (wrap64 (shr .u8 (bt s0_0 (ji3)) (IntKind.u64.wrap (wrap64 (7 - (Int.tmod a1 8)))))) 1, s0_0, s0_1)) else (none)) else (none)) else (none)) = some (r1, r2, r3) := by first | (rw [hji3] at H; exact H) | (simp only [hji3] at H ⊢; exact H)
  have hji3w : (IntKind.i64.wrap (Int.tdiv a1 8)) = ji3 := (i64_w _).trans hji3
  by_cases c4 : 0 ≤ (ji3)
  · rw [if_pos c4] at H
    have c4b0 : decide (0 ≤ (ji3)) = true := decide_eq_true c4
    clear c4
    by_cases c5 : (ji3) < (s0_0.size : Int)
    · rw [if_pos c5] at H
      have c5b0 : decide ((ji3) < (s0_0.size : Int)) = true := decide_eq_true c5
      clear c5
      obtain ⟨ji7, hji7⟩ : ∃ j_ : Int, (IntKind.u64.wrap (wrap64 (7 - (Int.tmod a1 8)))) = j_ := ⟨_, rfl⟩
      replace H : (if 0 ≤ (ji7) then (some (Go.bits .and .i64 (wrap64 (shr .u8 (bt s0_0 (ji3)) (ji7))) 1, s0_0, s0_1)) else (none)) = some (r1, r2, r3) := by first | (rw [hji7] at H; exact H) | (simp only [hji7] at H ⊢; exact H)
      by_cases c8 : 0 ≤ (ji7)
      · rw [if_pos c8] at H
        have c8b0 := eq_true c8
        have c8b1 : decide (0 ≤ (ji7)) = true := decide_eq_true c8
        clear c8
        obtain ⟨ji9, hji9⟩ : ∃ j_ : Int, (shr .u8 (bt s0_0 (ji3)) (ji7)) = j_ := ⟨_, rfl⟩
        replace H : (some (Go.bits .and .i64 (wrap64 (ji9)) 1, s0_0, s0_1)) = some (r1, r2, r3) := by first | (rw [hji9] at H; exact H) | (simp only [hji9] at H ⊢; exact H)
        have hji9_ : ((bt s0_0 (ji3)) / 2 ^ min (ji7).toNat 8) = ji9 := hji9
        have hji9z : (ji7) ≤ 8 → ((bt s0_0 (ji3)) / 2 ^ (ji7).toNat) = ji9 := shr_small hji9
        simp only [Option.some.injEq, Prod.mk.injEq] at H
        obtain ⟨rfl, rfl, rfl⟩ := H
        obtain ⟨HGz10, hgz10⟩ := HI0.out
        have hcz10_0 := cellS60_0 HGz10
        have hcz10_1 := cellS60_1 HGz10
        have hfz10_0 := blk_frozen HGz10 0
        have hfz10_1 := blk_frozen HGz10 1
        clear HGz10 hgz10
        have p6 : 0 ≤ ((ji3) : Int) := of_decide_eq_true (by first | (with_reducible assumption) | assumption)
        have q6 : (ji3) < (s0_0.size : Int) := of_decide_eq_true (by first | (with_reducible assumption) | assumption)
        have hx6 := bt_at s0_0 (ji3)
        replace p6 := eq_true p6
        replace q6 := eq_true q6
        go_enter Try.func44, Try.ntmps44
        go_wp2
        go_ret
        exact ⟨by first | rfl | (simp [errW_none, errW_some] <;> rfl) | (simp only [← hji3, ← hji7, ← hji9]; first | rfl | (simp [errW_none, errW_some] <;> rfl)) | (simp [*, errW_none, errW_some] <;> rfl), by repeat (first | (with_reducible first | exact HI0.out | apply IsS60.alloc | apply IsS60.drewN | apply IsS60.drew | apply IsS60.set_0 | apply IsS60.set_1) | exact HI0.out), by repeat (first | (with_reducible first | exact HB.out | apply below_alloc | apply pw_below_drewN | apply below_drew1 | refine below_set ?_ (IsS60.ge HI0.out)) | exact HB.out), by repeat (first | (with_reducible first | exact HK.out | apply KeepBut.set_ | apply keep_drewN | apply keep_drew | apply keep_alloc) | exact HK.out)⟩
      · rw [if_neg c8] at H
        exact absurd H (by simp)
    · rw [if_neg c5] at H
      exact absurd H (by simp)
  · rw [if_neg c4] at H
    exact absurd H (by simp)

/-! ### lacquerref01_R_Get: function 23 -/
mutual
def lacquerref01_R_Get.j0 : Nat → Int → Bool → ByteArray → Int → Option (Int × Int × ByteArray × Int)
  | 0, _, _, _, _ => none
  | k + 1, x1, x13, x1000, x1001 => if x13 = true then (some (0, 11, x1000, x1001)) else ((lacquerref01_R_Left.f x1000 x1001).bind fun bt113 => (if bt113.1 < x1 then (some (0, 10, bt113.2.1, bt113.2.2)) else (lacquerref01_R_Get.l0 k x1 0 0 bt113.2.1 bt113.2.2)))
def lacquerref01_R_Get.l0 : Nat → Int → Int → Int → ByteArray → Int → Option (Int × Int × ByteArray × Int)
  | 0, _, _, _, _, _ => none
  | k + 1, x1, x6, x7, x1000, x1001 => if x7 < x1 then ((lacquerref01_R_bit.f x1000 x1001 (wrap64 (x1001 + x7))).bind fun bt116 => (lacquerref01_R_Get.l0 k x1 (IntKind.u64.wrap ((IntKind.u64.wrap (x6 * 2)) + (IntKind.u64.wrap (bt116.1)))) (wrap64 (x7 + 1)) bt116.2.1 bt116.2.2)) else (some (x6, 0, x1000, wrap64 (x1001 + x1)))
end
def lacquerref01_R_Get.f (k : Nat) (s0_0 : ByteArray) (s0_1 : Int) (a1 : Int) : Option (Int × Int × ByteArray × Int) := if a1 < 0 then (lacquerref01_R_Get.j0 k a1 true s0_0 s0_1) else (lacquerref01_R_Get.j0 k a1 (decide (a1 > 64)) s0_0 s0_1)
set_option maxHeartbeats 8000000 in
set_option maxRecDepth 100000 in
theorem lacquerref01_R_Get.calls (k : Nat) (g : Nat) (s0_0 : ByteArray) (s0_1 : Int) (a1 : Int) (r1 : Int) (r2 : Int) (r3 : ByteArray) (r4 : Int) (w0 w : World) (hI : IsS60 w0 w g s0_0 s0_1) (hB : Below w0.heap.size w0 w) (h : lacquerref01_R_Get.f k s0_0 s0_1 a1 = some (r1, r2, r3, r4)) :
    Calls Try.prog 23 #[.pointer (some ⟨g, 0, none⟩), .int .i64 a1] w fun e w' => e = .returned (.tuple #[.int .u64 r1, .int .i64 r2]) ∧ IsS60 w0 w' g r3 r4 ∧ Below w0.heap.size w0 w' ∧ KeepBut w w' g none := by
  have HI0 := Aside0.mk hI
  have HK := Aside0.mk (KeepBut.refl w g none)
  have HL := Aside0.mk hB.size
  clear hI
  have HW0 := Aside0.mk hB.size
  have HB := Aside0.mk hB
  clear hB
  have H : (if a1 < 0 then (lacquerref01_R_Get.j0 k a1 true s0_0 s0_1) else (lacquerref01_R_Get.j0 k a1 (decide (a1 > 64)) s0_0 s0_1)) = some (r1, r2, r3, r4) := h
  clear h
  have HC3 := Aside0.mk H
  clear H
  go_enter Try.func23, Try.ntmps23
  go_upto_region 1 with (fail)
  go_cut [13] (fun v13 wc => ∃ (kq : Nat) (x13_2 : Bool), v13 = .bool x13_2 ∧ Aside0 (lacquerref01_R_Get.j0 kq a1 x13_2 s0_0 s0_1 = some (r1, r2, r3, r4)) ∧ Aside0 (kq ≤ k) ∧ Aside0 (IsS60 w0 wc g s0_0 s0_1) ∧ Aside0 (KeepBut w wc g none) ∧ Aside0 (Below w0.heap.size w0 wc))
  case first =>
    have H := HC3.out
    clear HC3
    by_cases c4 : a1 < 0
    · rw [if_pos c4] at H
      have c4b0 : decide (a1 < 0) = true := decide_eq_true c4
      clear c4
      (first | rw [c4b0] | (simp only [i64_w, i32_w]; rw [c4b0]) | skip)
      have H' := Aside0.mk H
      clear H
      go_wp2
      go_meet
      case rel => exact ⟨_, (true), (by first | rfl | (simp; done) | (simp [*]; done)), H', ⟨by first | omega | exact Nat.le_refl _⟩, ⟨by repeat (first | (with_reducible first | exact HI0.out | apply IsS60.alloc | apply IsS60.drewN | apply IsS60.drew | apply IsS60.set_0 | apply IsS60.set_1) | exact HI0.out)⟩, ⟨by repeat (first | (with_reducible first | exact HK.out | apply KeepBut.set_ | apply keep_drewN | apply keep_drew | apply keep_alloc) | exact HK.out)⟩, ⟨by repeat (first | (with_reducible first | exact HB.out | apply below_alloc | apply pw_below_drewN | apply below_drew1 | refine below_set ?_ (IsS60.ge HI0.out)) | exact HB.out)⟩⟩
    · rw [if_neg c4] at H
      have c4b0 : decide (a1 < 0) = false := decide_eq_false c4
      clear c4
      (first | rw [c4b0] | (simp only [i64_w, i32_w]; rw [c4b0]) | skip)
      have H' := Aside0.mk H
      clear H
      go_wp2
      go_meet
      case rel => exact ⟨_, (decide (a1 > 64)), (by first | rfl | (simp; done) | (simp [*]; done)), H', ⟨by first | omega | exact Nat.le_refl _⟩, ⟨by repeat (first | (with_reducible first | exact HI0.out | apply IsS60.alloc | apply IsS60.drewN | apply IsS60.drew | apply IsS60.set_0 | apply IsS60.set_1) | exact HI0.out)⟩, ⟨by repeat (first | (with_reducible first | exact HK.out | apply KeepBut.set_ | apply keep_drewN | apply keep_drew | apply keep_alloc) | exact HK.out)⟩, ⟨by repeat (first | (with_reducible first | exact HB.out | apply below_alloc | apply pw_below_drewN | apply below_drew1 | refine below_set ?_ (IsS60.ge HI0.out)) | exact HB.out)⟩⟩
  case rest =>
    clear HC3
    try clear c2
    try clear p2
    try clear c4
    try clear c4b0
    obtain ⟨kq, x13_2, rfl, HA, HJ2, HI0, HK, HB⟩ := hcut
    cases kq with
    | zero => exact absurd HA.out (by simp [lacquerref01_R_Get.j0])
    | succ kj2 =>
      have H := HA.out
      clear HA
      simp only [lacquerref01_R_Get.j0] at H
      by_cases c5 : x13_2 = true
      · subst c5
        have H1 : (some (0, 11, s0_0, s0_1)) = some (r1, r2, r3, r4) := by rw [if_pos rfl] at H; exact H
        clear H
        have H := H1
        clear H1
        simp only [Option.some.injEq, Prod.mk.injEq] at H
        obtain ⟨rfl, rfl, rfl, rfl⟩ := H
        go_wp2
        go_ret2
        exact ⟨by first | rfl | (simp [errW_none, errW_some] <;> rfl) | (simp [*, errW_none, errW_some] <;> rfl), by repeat (first | (with_reducible first | exact HI0.out | apply IsS60.alloc | apply IsS60.drewN | apply IsS60.drew | apply IsS60.set_0 | apply IsS60.set_1) | exact HI0.out), by repeat (first | (with_reducible first | exact HB.out | apply below_alloc | apply pw_below_drewN | apply below_drew1 | refine below_set ?_ (IsS60.ge HI0.out)) | exact HB.out), by repeat (first | (with_reducible first | exact HK.out | apply KeepBut.set_ | apply keep_drewN | apply keep_drew | apply keep_alloc) | exact HK.out)⟩
      · replace c5 := Bool.eq_false_iff.mpr c5
        subst c5
        have H1 : ((lacquerref01_R_Left.f s0_0 s0_1).bind fun bt113 => (if bt113.1 < a1 then (some (0, 10, bt113.2.1, bt113.2.2)) else (lacquerref01_R_Get.l0 kj2 a1 0 0 bt113.2.1 bt113.2.2))) = some (r1, r2, r3, r4) := by rw [if_neg (show ¬ (false = true) by decide)] at H; exact H
        clear H
        have H := H1
        clear H1
        replace H := Option.bind_eq_some_iff.mp H
        obtain ⟨⟨t113, t114, t115⟩, A60, H⟩ := H
        replace H : (if t113 < a1 then (some (0, 10, t114, t115)) else (lacquerref01_R_Get.l0 kj2 a1 0 0 t114 t115)) = some (r1, r2, r3, r4) := H
        have A6 := Aside0.mk A60
        clear A60
        by_cases c7 : t113 < a1
        · rw [if_pos c7] at H
          have c7b0 : decide (t113 < a1) = true := decide_eq_true c7
          clear c7
          simp only [Option.some.injEq, Prod.mk.injEq] at H
          obtain ⟨rfl, rfl, rfl, rfl⟩ := H
          go_wp2_with (first | ((with_reducible refine gate_callee (f := 43) rfl ?_); refine goesL_ (some 15) rfl rfl Try.func43 (by kernel_rfl) rfl #[.pointer (some ⟨g, 0, none⟩)] rfl (by (try simp only [List.map_toArray, List.map_cons, List.map_nil]); first | done | rfl | (simp only [List.length_drop, List.length_take]; rfl)) ?_; (with_reducible refine (lacquerref01_R_Left.calls g s0_0 s0_1 t113 t114 t115 w0 _ ?side1 ?side2 A6.out).mono ?_); (case side1 => repeat (first | (with_reducible first | exact HI0.out | apply IsS60.alloc | apply IsS60.drewN | apply IsS60.drew | apply IsS60.set_0 | apply IsS60.set_1) | exact HI0.out)); (case side2 => repeat (first | (with_reducible first | exact HB.out | apply below_alloc | apply pw_below_drewN | apply below_drew1 | refine below_set ?_ (IsS60.ge HI0.out)) | exact HB.out)); rintro e w8 ⟨rfl, hi, hb, hk⟩; refine ⟨_, rfl, ?_⟩; have n0_ := Aside0.mk (KeepBut.trans (by repeat (first | (with_reducible first | exact HK.out | apply KeepBut.set_ | apply keep_drewN | apply keep_drew | apply keep_alloc) | exact HK.out)) hk (.inl rfl)); have n1_ := Aside0.mk (hb); have n2_ := Aside0.mk (hi); clear HK; clear HB; clear HI0; have HK := n0_; have HB := n1_; have HI0 := n2_; clear n0_ n1_ n2_; (try clear hb); (try clear hb2); (try clear hk); (try clear hi)))
          go_ret2
          exact ⟨by first | rfl | (simp [errW_none, errW_some] <;> rfl) | (simp [*, errW_none, errW_some] <;> rfl), by repeat (first | (with_reducible first | exact HI0.out | apply IsS60.alloc | apply IsS60.drewN | apply IsS60.drew | apply IsS60.set_0 | apply IsS60.set_1) | exact HI0.out), by repeat (first | (with_reducible first | exact HB.out | apply below_alloc | apply pw_below_drewN | apply below_drew1 | refine below_set ?_ (IsS60.ge HI0.out)) | exact HB.out), by repeat (first | (with_reducible first | exact HK.out | apply KeepBut.set_ | apply keep_drewN | apply keep_drew | apply keep_alloc) | exact HK.out)⟩
        · rw [if_neg c7] at H
          have c7b0 : decide (t113 < a1) = false := decide_eq_false c7
          clear c7
          have H' := Aside0.mk H
          clear H
          go_wp2_with (first | ((with_reducible refine gate_callee (f := 43) rfl ?_); refine goesL_ (some 15) rfl rfl Try.func43 (by kernel_rfl) rfl #[.pointer (some ⟨g, 0, none⟩)] rfl (by (try simp only [List.map_toArray, List.map_cons, List.map_nil]); first | done | rfl | (simp only [List.length_drop, List.length_take]; rfl)) ?_; (with_reducible refine (lacquerref01_R_Left.calls g s0_0 s0_1 t113 t114 t115 w0 _ ?side1 ?side2 A6.out).mono ?_); (case side1 => repeat (first | (with_reducible first | exact HI0.out | apply IsS60.alloc | apply IsS60.drewN | apply IsS60.drew | apply IsS60.set_0 | apply IsS60.set_1) | exact HI0.out)); (case side2 => repeat (first | (with_reducible first | exact HB.out | apply below_alloc | apply pw_below_drewN | apply below_drew1 | refine below_set ?_ (IsS60.ge HI0.out)) | exact HB.out)); rintro e w9 ⟨rfl, hi, hb, hk⟩; refine ⟨_, rfl, ?_⟩; have n0_ := Aside0.mk (KeepBut.trans (by repeat (first | (with_reducible first | exact HK.out | apply KeepBut.set_ | apply keep_drewN | apply keep_drew | apply keep_alloc) | exact HK.out)) hk (.inl rfl)); have n1_ := Aside0.mk (hb); have n2_ := Aside0.mk (hi); clear HK; clear HB; clear HI0; have HK := n0_; have HB := n1_; have HI0 := n2_; clear n0_ n1_ n2_; (try clear hb); (try clear hb2); (try clear hk); (try clear hi)))
          go_loopg [6, 7] kj2 (fun kq v6 v7 w' => ∃ (x6_2 : Int) (x7_2 : Int) (x1000_2 : ByteArray) (x1001_2 : Int), v6 = .int .u64 x6_2 ∧ v7 = .int .i64 x7_2 ∧ Aside0 (lacquerref01_R_Get.l0 kq a1 x6_2 x7_2 x1000_2 x1001_2 = some (r1, r2, r3, r4)) ∧ Aside0 (kq ≤ kj2) ∧ Aside0 (IsS60 w0 w' g x1000_2 x1001_2) ∧ Aside0 (KeepBut w w' g none) ∧ Aside0 (Below w0.heap.size w0 w'))
          case atStart => exact ⟨(0), (0), (t114), (t115), (by first | rfl | (simp; done) | (simp [*]; done)), (by first | rfl | (simp; done) | (simp [*]; done)), H', ⟨Nat.le_refl _⟩, ⟨by repeat (first | (with_reducible first | exact HI0.out | apply IsS60.alloc | apply IsS60.drewN | apply IsS60.drew | apply IsS60.set_0 | apply IsS60.set_1) | exact HI0.out)⟩, ⟨by repeat (first | (with_reducible first | exact HK.out | apply KeepBut.set_ | apply keep_drewN | apply keep_drew | apply keep_alloc) | exact HK.out)⟩, ⟨by repeat (first | (with_reducible first | exact HB.out | apply below_alloc | apply pw_below_drewN | apply below_drew1 | refine below_set ?_ (IsS60.ge HI0.out)) | exact HB.out)⟩⟩
          case round =>
            clear H'
            try clear c2
            try clear p2
            try clear c4
            try clear c4b0
            try clear c5
            try clear c7
            try clear c7b0
            try clear p2
            obtain ⟨x6_2, x7_2, x1000_2, x1001_2, rfl, rfl, HA, HK2, HI0, HK, HB⟩ := hrel
            cases gk with
            | zero => exact absurd HA.out (by simp [lacquerref01_R_Get.l0])
            | succ k2 =>
              have H := HA.out
              clear HA
              simp only [lacquerref01_R_Get.l0] at H
              by_cases c10 : x7_2 < a1
              · rw [if_pos c10] at H
                have c10b0 : decide (x7_2 < a1) = true := decide_eq_true c10
                clear c10
                replace H := Option.bind_eq_some_iff.mp H
                obtain ⟨⟨t116, t117, t118⟩, A110, H⟩ := H
                replace H : (lacquerref01_R_Get.l0 k2 a1 (IntKind.u64.wrap ((IntKind.u64.wrap (x6_2 * 2)) + (IntKind.u64.wrap (t116)))) (wrap64 (x7_2 + 1)) t117 t118) = some (r1, r2, r3, r4) := H
                have A11 := Aside0.mk A110
                clear A110
                have H' := Aside0.mk H
                clear H
                obtain ⟨HGz12, hgz12⟩ := HI0.out
                have hcz12_0 := cellS60_0 HGz12
                have hcz12_1 := cellS60_1 HGz12
                have hfz12_0 := blk_frozen HGz12 0
                have hfz12_1 := blk_frozen HGz12 1
                clear HGz12 hgz12
                go_wp2_with (first | ((with_reducible refine gate_callee (f := 44) rfl ?_); refine goesL_ (some 32) rfl rfl Try.func44 (by kernel_rfl) rfl #[.pointer (some ⟨g, 0, none⟩), .int .i64 (wrap64 (x1001_2 + x7_2))] rfl (by (try simp only [List.map_toArray, List.map_cons, List.map_nil]); first | done | rfl | (simp only [List.length_drop, List.length_take]; rfl)) ?_; (with_reducible refine (lacquerref01_R_bit.calls g x1000_2 x1001_2 (wrap64 (x1001_2 + x7_2)) t116 t117 t118 w0 _ ?side1 ?side2 A11.out).mono ?_); (case side1 => repeat (first | (with_reducible first | exact HI0.out | apply IsS60.alloc | apply IsS60.drewN | apply IsS60.drew | apply IsS60.set_0 | apply IsS60.set_1) | exact HI0.out)); (case side2 => repeat (first | (with_reducible first | exact HB.out | apply below_alloc | apply pw_below_drewN | apply below_drew1 | refine below_set ?_ (IsS60.ge HI0.out)) | exact HB.out)); rintro e w13 ⟨rfl, hi, hb, hk⟩; refine ⟨_, rfl, ?_⟩; have n0_ := Aside0.mk (KeepBut.trans (by repeat (first | (with_reducible first | exact HK.out | apply KeepBut.set_ | apply keep_drewN | apply keep_drew | apply keep_alloc) | exact HK.out)) hk (.inl rfl)); have n1_ := Aside0.mk (hb); have n2_ := Aside0.mk (hi); clear HK; clear HB; clear HI0; have HK := n0_; have HB := n1_; have HI0 := n2_; clear n0_ n1_ n2_; (try clear hb); (try clear hb2); (try clear hk); (try clear hi)))
                go_roundg k2
                case measure => have := HJ2.out; have := HK2.out; omega
                case rel => exact ⟨(IntKind.u64.wrap ((IntKind.u64.wrap (x6_2 * 2)) + (IntKind.u64.wrap (t116)))), (wrap64 (x7_2 + 1)), (t117), (t118), (by first | rfl | (simp; done) | (simp [*]; done)), (by first | rfl | (simp; done) | (simp [*]; done)), H', ⟨by have := HJ2.out; have := HK2.out; omega⟩, ⟨by repeat (first | (with_reducible first | exact HI0.out | apply IsS60.alloc | apply IsS60.drewN | apply IsS60.drew | apply IsS60.set_0 | apply IsS60.set_1) | exact HI0.out)⟩, ⟨by repeat (first | (with_reducible first | exact HK.out | apply KeepBut.set_ | apply keep_drewN | apply keep_drew | apply keep_alloc) | exact HK.out)⟩, ⟨by repeat (first | (with_reducible first | exact HB.out | apply below_alloc | apply pw_below_drewN | apply below_drew1 | refine below_set ?_ (IsS60.ge HI0.out)) | exact HB.out)⟩⟩
              · rw [if_neg c10] at H
                have c10b0 : decide (x7_2 < a1) = false := decide_eq_false c10
                clear c10
                simp only [Option.some.injEq, Prod.mk.injEq] at H
                obtain ⟨rfl, rfl, rfl, rfl⟩ := H
                obtain ⟨HGz14, hgz14⟩ := HI0.out
                have hcz14_0 := cellS60_0 HGz14
                have hcz14_1 := cellS60_1 HGz14
                have hfz14_0 := blk_frozen HGz14 0
                have hfz14_1 := blk_frozen HGz14 1
                clear HGz14 hgz14
                go_wp2
                go_ret2
                exact ⟨by first | rfl | (simp [errW_none, errW_some] <;> rfl) | (simp [*, errW_none, errW_some] <;> rfl), by repeat (first | (with_reducible first | exact HI0.out | apply IsS60.alloc | apply IsS60.drewN | apply IsS60.drew | apply IsS60.set_0 | apply IsS60.set_1) | exact HI0.out), by repeat (first | (with_reducible first | exact HB.out | apply below_alloc | apply pw_below_drewN | apply below_drew1 | refine below_set ?_ (IsS60.ge HI0.out)) | exact HB.out), by repeat (first | (with_reducible first | exact HK.out | apply KeepBut.set_ | apply keep_drewN | apply keep_drew | apply keep_alloc) | exact HK.out)⟩

/-- A state of type 87 at block g of W; what its slices lead to came in by w0. -/
def IsS87 (w0 W : World) (g : Nat) (f0 : Int) (f1 : List Int) : Prop := ∃ A1 c1, W.heap[g]? = some (.cells #[.int .i64 f0, .slice A1 f1.length c1] 87 (0, 0)) ∧ w0.heap.size ≤ g ∧ Kd.C (Kd.int .u8) w0 A1 f1.length f1
theorem IsS87.grown {w0 W : World} {g : Nat} {f0 : Int} {f1 : List Int} {W1 : World} {row : Option Nat} (h : IsS87 w0 W g f0 f1) (hw : W.grownBy W1 row) (hne : some g ≠ row) : IsS87 w0 W1 g f0 f1 := by
  obtain ⟨A1, c1, hb, hg, hr1⟩ := h
  exact ⟨A1, c1, blk_grown hb hw hne, hg, hr1⟩
theorem IsS87.kept {w0 W : World} {g : Nat} {f0 : Int} {f1 : List Int} {W1 : World} {S : Nat → Prop} (h : IsS87 w0 W g f0 f1) (hk : Kept W W1 S) (hne : ¬ S g) : IsS87 w0 W1 g f0 f1 := by
  obtain ⟨A1, c1, hb, hg, hr1⟩ := h
  exact ⟨A1, c1, blk_kept hb hk hne, hg, hr1⟩
theorem IsS87.below {w0 W : World} {g : Nat} {f0 : Int} {f1 : List Int} {W1 : World} (h : IsS87 w0 W g f0 f1) (hw : Below W.heap.size W W1) : IsS87 w0 W1 g f0 f1 := h.grown (grown_of_below hw none) (by simp)
theorem IsS87.alloc {w0 W : World} {g : Nat} {f0 : Int} {f1 : List Int} (h : IsS87 w0 W g f0 f1) (o : Obj) : IsS87 w0 (W.alloc o) g f0 f1 := h.below (below_alloc (Below.refl _ _) o)
theorem IsS87.drewN {w0 W : World} {g : Nat} {f0 : Int} {f1 : List Int} (h : IsS87 w0 W g f0 f1) (m : Nat) : IsS87 w0 (W.drewN m) g f0 f1 := h
theorem IsS87.drew {w0 W : World} {g : Nat} {f0 : Int} {f1 : List Int} (h : IsS87 w0 W g f0 f1) : IsS87 w0 W.drew g f0 f1 := h
theorem IsS87.at_ {w0 W : World} {g : Nat} {f0 : Int} {f1 : List Int} {w' : World} {m : Nat} (hq : W.drewN m = w') (h : IsS87 w0 W g f0 f1) : IsS87 w0 w' g f0 f1 := by subst hq; exact IsS87.drewN h m
theorem IsS87.apart {w0 W : World} {g : Nat} {f0 : Int} {f1 : List Int} {α : Type} {d : Kd α} {e : Nat} {base : Nat} {ok : Nat → Prop} {v : Value} {xs : List α} (h : IsS87 w0 W g f0 f1) (ho : d.R e W base ok v xs) (ht : ∀ q, q ∈ e :: d.E → q ≠ 87) : d.R e W base (fun k => ok k ∧ k ≠ g) v xs := by
  obtain ⟨A1, c1, hb, hg, hr1⟩ := h
  exact Kd.R_types ho hb ht
theorem IsS87.own_ne {w0 W : World} {g : Nat} {f0 : Int} {f1 : List Int} {α : Type} {d : Kd α} {e : Nat} {base : Nat} {ok : Nat → Prop} {v : Value} {xs : List α} (h : IsS87 w0 W g f0 f1) (ho : d.R e W base ok v xs) (ht : e ≠ 87) : some g ≠ v.ownBlock := by
  obtain ⟨A1, c1, hb, hg, hr1⟩ := h
  exact Kd.R_ne ho hb ht
theorem IsS87.lt {w0 W : World} {g : Nat} {f0 : Int} {f1 : List Int} (h : IsS87 w0 W g f0 f1) : g < W.heap.size := by
  obtain ⟨A1, c1, hb, hg, hr1⟩ := h
  exact blk_lt hb
theorem IsS87.ge {w0 W : World} {g : Nat} {f0 : Int} {f1 : List Int} (h : IsS87 w0 W g f0 f1) : w0.heap.size ≤ g := by
  obtain ⟨A1, c1, hb, hg, hr1⟩ := h
  exact hg
theorem IsS87.set_0 {w0 W : World} {g : Nat} {f0 : Int} {f1 : List Int} (h : IsS87 w0 W g f0 f1) (x : Int) : IsS87 w0 (W.setCell ⟨g, 0, none⟩ (.int .i64 x)) g x f1 := by
  obtain ⟨A1, c1, hb, hg, hr1⟩ := h
  exact ⟨A1, c1, by simpa using blk_set hb 0 (.int .i64 x), hg, hr1⟩
theorem IsS87.new (w0 W : World) (A1 : Option Addr) (c1 : Nat) (f0 : Int) (f1 : List Int) (hB : Below w0.heap.size w0 W) (hr1 : Kd.C (Kd.int .u8) w0 A1 f1.length f1) : IsS87 w0 (W.alloc (.cells #[.int .i64 f0, .slice A1 f1.length c1] 87)) W.heap.size f0 f1 := ⟨A1, c1, by simpa using heap_alloc_new W _, hB.size, hr1⟩

end Go.Proofs.Ytgihacaegmpggaa.Q

/- Contracts of layer 13, proved by hand: Info. -/
namespace Go.Proofs.Ytgihacaegmpggaa.Hand
open Go.RowKit Go.Proofs.Ytgihacaegmpggaa.Q Go.Proofs.YtgihacaegmpggaaW.PrintWords Go.Proofs.YtgihacaegmpggaaW.PrintLast Go.Proofs.YtgihacaegmpggaaW.PrintMore
set_option linter.unusedVariables false
set_option linter.unusedSimpArgs false
attribute [local go_sem] bothUpon_value

/-- Where a number of a stream's first block lies, and how wide it is. -/
def wid : List Nat := [16, 16, 24, 24, 20, 3, 5, 36]
def posW (i : Nat) : Nat := (wid.take i).foldl (· + ·) 0
def valW (s : ByteArray) (i : Nat) : Int := (numAt s (posW i) (wid.getD i 0) : Int)
theorem posW_le : ∀ i, i ≤ 8 → posW i ≤ 144 := by decide
theorem posW_next : ∀ i, i < 8 → posW (i + 1) = posW i + wid.getD i 0 ∧ posW i + wid.getD i 0 ≤ 144 ∧ wid.getD i 0 ≤ 36 := by decide
theorem valW_in (s : ByteArray) (i : Nat) (h : i < 8) : 0 ≤ valW s i ∧ valW s i < 68719476736 := by
  unfold valW
  have h1 := numAt_lt s (posW i) (wid.getD i 0)
  have h2 := (posW_next i h).2.2
  have h3 : 2 ^ wid.getD i 0 ≤ 2 ^ 36 := Nat.pow_le_pow_right (by decide) h2
  omega
/-- What Info finds wrong. -/
def infoE (s : ByteArray) : Int :=
  if s.size = 34 then
    if valW s 0 < 16 ∨ valW s 1 < valW s 0 ∨ valW s 4 = 0 then 2
    else if valW s 6 + 1 < 4 ∨ 24 < valW s 6 + 1 ∨ 4608 < valW s 1 ∨ 655350 < valW s 4 then 3
    else if 1048576 < valW s 7 then 5 else 0
  else 2
abbrev Inf := Int × Int × Int × Int × Int × Int × Int × Int × ByteArray
def noInf : Inf := (0, 0, 0, 0, 0, 0, 0, 0, ⟨#[]⟩)
def infoV (s : ByteArray) : Inf := (valW s 0, valW s 1, valW s 2, valW s 3, valW s 4, valW s 5 + 1, valW s 6 + 1, valW s 7, s.extract 18 34)
def infoF (s : ByteArray) : Inf × Int := if infoE s = 0 then (infoV s, 0) else (noInf, infoE s)
def infC (i : Inf) : Value := .agg #[.int .i64 i.1, .int .i64 i.2.1, .int .i64 i.2.2.1, .int .i64 i.2.2.2.1, .int .i64 i.2.2.2.2.1, .int .i64 i.2.2.2.2.2.1, .int .i64 i.2.2.2.2.2.2.1, .int .i64 i.2.2.2.2.2.2.2.1, .string i.2.2.2.2.2.2.2.2]
theorem getW (s : ByteArray) (hs : s.size = 34) (i : Nat) (h : i < 8) : getR s (posW i) (wid.getD i 0 : Nat) = (numAt s (posW i) (wid.getD i 0), 0, posW (i + 1)) := by
  obtain ⟨h1, h2, h3⟩ := posW_next i h
  unfold getR
  rw [if_neg (by omega), if_neg (by omega), h1]
  rfl
theorem results_row_tmp {P : Program} {fn : Func} {p u : Tmp} {ty : TypeId} (h : fn.results = #[.cell p ty, .tmp u]) (tmps : Array Value) (w : World) (g : Nat) (t : TypeId) (cs : Array Value) (fr : Nat × Nat) (d : TypeDesc)
    (hp : tmps.getD p undef = .pointer (some ⟨g, 0, none⟩)) (hg : w.heap[g]? = some (.cells cs t fr))
    (hu : P.underlying ty = some d) (hd : (match d with | .struct _ | .array _ _ => true | _ => false) = true) (hi : (P.info? ty).map (·.size) = some cs.size) :
    (results fn tmps).run P w = .ok (.tuple #[.agg cs, tmps.getD u undef]) w := by
  rw [results_cell_tmp h, hp]
  simp [asAddr, run_loadVar_row w g t ty cs fr d hg hu hd hi, Result.andThen, Sem.run_pure]
abbrev zInf : Array Value := #[.int .i64 0, .int .i64 0, .int .i64 0, .int .i64 0, .int .i64 0, .int .i64 0, .int .i64 0, .int .i64 0, .string ⟨#[]⟩]
theorem inf_one (a b c d e f g h : Int) (s : ByteArray) : (#[.int .i64 a, .int .i64 b, .int .i64 c, .int .i64 d, .int .i64 e, .int .i64 f, .int .i64 g, .int .i64 h, .string s] : Array Value).all (·.oneCell') = true := by simp [Value.oneCell']
theorem inf_info : (Try.prog.info? 23).map (·.size) = some 9 := by kernel_rfl
theorem inf_infoV (a b c d e f g h : Int) (s : ByteArray) : (Try.prog.info? 23).map (·.size) = some (#[.int .i64 a, .int .i64 b, .int .i64 c, .int .i64 d, .int .i64 e, .int .i64 f, .int .i64 g, .int .i64 h, .string s] : Array Value).size := inf_info
def wideL : List Int := [16, 16, 24, 24, 20, 3, 5, 36]
theorem wideL_at : ∀ i, i < 8 → wideL.getD i 0 = (wid.getD i 0 : Int) := by decide
theorem RAt.owned {w w1 : World} {B g p : Nat} {s : ByteArray} {v : Value} {xs : List Int} (h : RAt w g s p) (hv : IntsAt w B v xs) (hg : w.grownBy w1 v.ownBlock) : RAt w1 g s p := hv.other h (by decide) hg
set_option maxHeartbeats 8000000 in
set_option maxRecDepth 100000 in
theorem Info_any (s : ByteArray) (w : World) :
    Calls Try.prog 8 #[.string s] w fun e w' => e = .returned (.tuple #[infC (infoF s).1, .int .i64 (infoF s).2]) ∧ Below w.heap.size w w' := by
  have hup := Try.underlying51
  by_cases hsz : (s.size : Int) = 34
  · have HSZ := Aside0.mk (show s.size = 34 by omega)
    go_enter Try.func8, Try.ntmps8
    go_wp2_with fail
    have HR0 := Aside0.mk (blk_new w (.cells zInf 23))
    have HB0 := Aside0.mk ((Below.refl w.heap.size w).alloc (Nat.le_refl _) (.cells zInf 23))
    change Calls _ _ _ (w.alloc (.cells zInf 23)) _
    generalize w.alloc (.cells zInf 23) = w1 at HR0 HB0 ⊢
    obtain ⟨B, hB⟩ : ∃ B, w.heap.size = B := ⟨_, rfl⟩
    rw [hB] at HR0 ⊢
    have hBw := Aside0.mk HB0.out.size
    rw [hB] at HB0 hBw
    have HBB := Aside0.mk hB
    clear hB
    refine (Of_any s w1).mono ?_
    rintro e w2 ⟨rfl, rfl⟩
    have hb1 := below_alloc (Below.refl w1.heap.size w1) (.cells #[.int .i64 0, .string s] 80)
    have HX2 := Aside0.mk (of_at s w1)
    have HR2 := Aside0.mk (blk_below HR0.out hb1)
    have HB2 := Aside0.mk (HB0.out.trans (hb1.mono hBw.out))
    have hBw2 := Aside0.mk (Nat.le_trans hBw.out hb1.size)
    have hg : B < w1.heap.size := blk_lt HR0.out
    clear hb1 HR0 HB0
    generalize w1.alloc (.cells #[.int .i64 0, .string s] 80) = w2 at HX2 HR2 HB2 hBw2 ⊢
    generalize w1.heap.size = g at HX2 hg ⊢
    go_wp2_with fail
    refine (meta_wide.calls wideL w2 rfl).mono ?_
    rintro e w3 ⟨vw, rfl, hW, hb⟩
    have HX3 := Aside0.mk (HX2.out.below hb)
    have HR3 := Aside0.mk (blk_below HR2.out hb)
    have HB3 := Aside0.mk (HB2.out.trans (hb.mono hBw2.out))
    have hB3 : B ≤ w3.heap.size := Nat.le_trans hBw2.out hb.size
    have h1 := Kd.R_types hW HX3.out (fun q hq => by rw [int_E q hq]; decide)
    obtain ⟨Aw, cw, rfl, hcw, _⟩ := (IntsAt.of hW).C
    have HCW := Aside0.mk (Kd.C_kept_own (S := fun k => k = g) h1 (fun k hk => hk.2))
    have hgB : g ≠ B := by omega
    clear hW hb HX2 HR2 HB2 h1 hBw hBw2
    have HO3 := Aside0.mk (IntsAt.nil w3 w3.heap.size)
    have HK3 := Aside0.mk (Kept.refl w3 (fun k => k = g))
    have hlw : wideL.length = 8 := rfl
    rw [hlw] at hcw HCW ⊢
    clear hlw
    go_wp2
    go_loopw [5, 19] (fun vv iv wr => ∃ i : Nat, i ≤ 8 ∧ iv = .int .i64 i ∧ Aside0 (IntsAt wr w3.heap.size vv (tab i (valW s))) ∧ Aside0 (RAt wr g s (posW i)) ∧ Aside0 (Kept w3 wr (fun k => k = g)) ∧ Aside0 (Below B w wr)) (fun _ iv _ => 8 - (intOf iv).toNat)
    case atStart => exact ⟨0, by omega, rfl, HO3, HX3, HK3, HB3⟩
    case round =>
      clear HO3 HX3 HK3 HB3
      obtain ⟨i, hi, rfl, HO, HX, HK, HB⟩ := hrel
      by_cases hlt : i < 8
      · have i0 : (0 : Int) ≤ (i : Int) := by omega
        have i1 : (i : Int) < 8 := by omega
        obtain ⟨ad, rfl, hx⟩ := (Kd.reads_of_C (d := (0 : Int)) (enc := Value.int .i64) (HCW.out wr HK.out)).at_ (i : Int) i0 i1
        rw [Int.toNat_natCast] at hx
        have hwi : rdOf 0 wideL (i : Int) = (wid.getD i 0 : Int) := by
          rw [← wideL_at i hlt]
          simp [rdOf]
        rw [hwi] at hx
        have hge := getW s HSZ.out i hlt
        have HGA := Aside0.mk (Get_any s (by rw [HSZ.out]; decide) (posW i) (by rw [HSZ.out]; have := posW_le i hi; omega) (wid.getD i 0 : Nat) B g (by omega) wr HX.out)
        rw [hge] at HGA
        have hvi := valW_in s i hlt
        have HSN := Aside0.mk (tab_snoc i (valW s))
        have hval : ((numAt s (posW i) (wid.getD i 0) : Nat) : Int) = valW s i := rfl
        rw [hval] at HGA
        clear hge hval hwi
        generalize ((wid.getD i 0 : Nat) : Int) = wi at hx HGA
        generalize valW s i = n at hvi HGA HSN
        have hcv : IntKind.i64.wrap n = n := by rw [IntKind.wrap_i64]; omega
        have HLN : Aside0 ((tab i (valW s)).length < 17592186044415) := ⟨by rw [tab_length]; omega⟩
        go_wp2_with fail
        with_reducible refine HGA.out.mono ?_
        rintro e w5 ⟨rfl, hX5, hT5⟩
        have HX5 := Aside0.mk hX5
        have HO5 := Aside0.mk (HO.out.kept HX.out (by decide) hT5.kept)
        have HK5 := Aside0.mk (HK.out.then_ hT5.kept (fun _ h => .inl h))
        have HB5 := Aside0.mk (HB.out.trans hT5.below)
        have hs5 : w3.heap.size ≤ w5.heap.size := Nat.le_trans HK.out.1 hT5.kept.1
        clear hX5 hT5 HX HO HK HB HGA hx
        go_wp2_with (at_builtin; (with_reducible refine app_ints (w0 := w5) (B := w3.heap.size) (v := u5) (xs := tab i (valW s)) (.tmp 29) (.tmp 32) n ?_ ?_ ?_ ?_ ?_ ?_ ?_ ?_ ?_); rfl; rfl; rfl; rfl; exact HO5.out; exact Below.refl _ _; exact hs5; exact HLN.out; intro v1 w6 HO6 HB6 HG6 HV6)
        go_roundw
        case rel => exact ⟨i + 1, by omega, by go_num, ⟨by rw [HSN.out]; exact HO6.out⟩, ⟨HX5.out.owned HO5.out HG6.out⟩, ⟨HK5.out.of_grown HG6.out (fun k hk => .inr (HO5.out.ge k hk))⟩, ⟨HB5.out.grown HG6.out (Nat.le_trans hB3 hs5) (fun k hk => Nat.le_trans hB3 (HO5.out.ge k hk))⟩⟩
        case measure => simp [intOf]; omega
      · obtain rfl : i = 8 := by omega
        obtain ⟨b, cap, rfl, hcap, hcl, hfr, hbB, hbl⟩ := HO.out.place 0 (by rw [tab_length]; decide)
        rw [tab_length] at hcap hcl ⊢
        have hq : ∀ j, j < 8 → wr.cell? ⟨b, j, none⟩ = some (.int .i64 (valW s j)) := fun j hj => by rw [hcl j hj, tab_get _ _ j hj]
        have q0 := hq 0 (by decide)
        have q1 := hq 1 (by decide)
        have q2 := hq 2 (by decide)
        have q3 := hq 3 (by decide)
        have q4 := hq 4 (by decide)
        have q5 := hq 5 (by decide)
        have q6 := hq 6 (by decide)
        have q7 := hq 7 (by decide)
        have i4 := valW_in s 4 (by decide)
        have i5 := valW_in s 5 (by decide)
        have i6 := valW_in s 6 (by decide)
        have HE : Aside0 (infoE s = if valW s 0 < 16 ∨ valW s 1 < valW s 0 ∨ valW s 4 = 0 then 2
            else if valW s 6 + 1 < 4 ∨ 24 < valW s 6 + 1 ∨ 4608 < valW s 1 ∨ 655350 < valW s 4 then 3
            else if 1048576 < valW s 7 then 5 else 0) := ⟨by unfold infoE; rw [if_pos HSZ.out]⟩
        have HV : Aside0 (infoV s = (valW s 0, valW s 1, valW s 2, valW s 3, valW s 4, valW s 5 + 1, valW s 6 + 1, valW s 7, s.extract 18 34)) := ⟨rfl⟩
        have HR4 := Aside0.mk (blk_kept HR3.out HK.out (fun e => hgB e.symm))
        have hB5 : B < wr.heap.size := blk_lt HR4.out
        have ca : ∀ (j : Nat) (o : Obj), (wr.alloc o).cell? ⟨b, j, none⟩ = wr.cell? ⟨b, j, none⟩ := fun j o => World.cell?_alloc_lt _ _ _ hbl
        clear hq hcl hfr HO HX HK HCW HR3 hbB
        generalize valW s 0 = v0 at q0 HE HV
        generalize valW s 1 = v1 at q1 HE HV
        generalize valW s 2 = v2 at q2 HV
        generalize valW s 3 = v3 at q3 HV
        generalize valW s 4 = v4 at q4 i4 HE HV
        generalize valW s 5 = v5 at q5 i5 HV
        generalize valW s 6 = v6 at q6 i6 HE HV
        generalize valW s 7 = v7 at q7 HE HV
        have hs34 : (s.size : Int) = 34 := by have := HSZ.out; omega
        have e5 : IntKind.i64.wrap (v5 + 1) = v5 + 1 := by rw [IntKind.wrap_i64]; omega
        have e6 : IntKind.i64.wrap (v6 + 1) = v6 + 1 := by rw [IntKind.wrap_i64]; omega
        have HS34 := HSZ
        clear i4 i5 i6 HSZ hsz
        go_wp2
        go_cut [10] (fun gv wx => ∃ g5 : Nat, gv = .pointer (some ⟨g5, 0, none⟩) ∧ g5 ≠ B ∧ Aside0 (wx.heap[g5]? = some (.cells #[.int .i64 v0, .int .i64 v1, .int .i64 v2, .int .i64 v3, .int .i64 v4, .int .i64 (v5 + 1), .int .i64 (v6 + 1), .int .i64 v7, .string (s.extract 18 s.size)] 23 (0, 0))) ∧ Aside0 (wx.heap[B]? = some (.cells zInf 23 (0, 0))) ∧ Aside0 (Below B w wx))
        case first =>
          --REGION
          have ca2 : ∀ (j : Nat) (o : Obj), (wr.drew.alloc o).cell? ⟨b, j, none⟩ = wr.cell? ⟨b, j, none⟩ := fun j o => (World.cell?_alloc_lt _ _ _ hbl)
          refine wp_region_still_new (w1 := wr.drew.alloc (.cells zInf 23)) (pA := .pointer (some ⟨wr.heap.size, 0, none⟩)) 29 30 (by kernel_rfl) (by kernel_rfl) rfl (fun a => by go_simp) (fun _ => rfl) ?_
          simp only [List.take_succ_cons, List.take_zero, List.drop_succ_cons, List.drop_zero]
          change wpStillA _ _ wr.drew _ _ _ _ _ _ _
          repeat (first | (refine wpStillA_made rfl (fun K hK => ?_); go_simp; refine hK _ ?_; clear hK K) | (refine wpStillA_next (by decide) rfl (fun K hK => ?_); go_simp; refine hK _ ?_; clear hK K))
          refine wpStillA_nil ?_
          have hb5 := below_alloc (below_drew (Below.refl wr.heap.size wr)) (.cells #[.int .i64 v0, .int .i64 v1, .int .i64 v2, .int .i64 v3, .int .i64 v4, .int .i64 (v5 + 1), .int .i64 (v6 + 1), .int .i64 v7, .string (s.extract 18 s.size)] 23)
          have HI5 := Aside0.mk (show (wr.drew.alloc (.cells #[.int .i64 v0, .int .i64 v1, .int .i64 v2, .int .i64 v3, .int .i64 v4, .int .i64 (v5 + 1), .int .i64 (v6 + 1), .int .i64 v7, .string (s.extract 18 s.size)] 23)).heap[wr.heap.size]? = _ from blk_new wr.drew _)
          have HR5 := Aside0.mk (show (wr.drew.alloc (.cells #[.int .i64 v0, .int .i64 v1, .int .i64 v2, .int .i64 v3, .int .i64 v4, .int .i64 (v5 + 1), .int .i64 (v6 + 1), .int .i64 v7, .string (s.extract 18 s.size)] 23)).heap[B]? = _ from blk_below HR4.out hb5)
          have HB5 := Aside0.mk (HB.out.trans (hb5.mono (by omega)))
          have hne : wr.heap.size ≠ B := by omega
          clear q0 q1 q2 q3 q4 q5 q6 q7 ca ca2 HB HR4 hb5 hB5 hbl
          go_wp2_with fail
          go_meet
          exact ⟨wr.heap.size, rfl, hne, HI5, HR5, HB5⟩
          --END
        case rest =>
          obtain ⟨g5, rfl, hne, HI5, HR5, HB5⟩ := hcut
          clear q0 q1 q2 q3 q4 q5 q6 q7 ca HB HR4 hB5 hbl e5 e6
          have c0 : wc.cell? ⟨g5, 0, none⟩ = some (.int .i64 v0) := blk_cell HI5.out 0
          have c1 : wc.cell? ⟨g5, 1, none⟩ = some (.int .i64 v1) := blk_cell HI5.out 1
          have c4 : wc.cell? ⟨g5, 4, none⟩ = some (.int .i64 v4) := blk_cell HI5.out 4
          have c6 : wc.cell? ⟨g5, 6, none⟩ = some (.int .i64 (v6 + 1)) := blk_cell HI5.out 6
          have c7 : wc.cell? ⟨g5, 7, none⟩ = some (.int .i64 v7) := blk_cell HI5.out 7
          by_cases k1 : v0 < 16 ∨ v1 < v0 ∨ v4 = 0
          · have HX : Aside0 (infoF s = (noInf, 2)) := ⟨by
              have : infoE s = 2 := HE.out.trans (if_pos k1)
              unfold infoF
              rw [this]
              rfl⟩
            have k2 : v0 < 16 ∨ (¬ v0 < 16 ∧ v1 < v0) ∨ (¬ v0 < 16 ∧ ¬ v1 < v0 ∧ v4 = 0) := by omega
            clear k1 HE HV
            rcases k2 with k2 | ⟨k2, k3⟩ | ⟨k2, k3, k4⟩
            all_goals
              go_wp2_with ((with_reducible refine wpList_store_row ?_ 23 (.tmp 2) (.tmp 80) ?_ B zInf ?_ ?_ 23 zInf HR5.out (inf_infoV _ _ _ _ _ _ _ _ _) ?_ (inf_one _ _ _ _ _ _ _ _ _) ?_); rfl; rfl; rfl; rfl; rfl)
              refine bodyPost_ret (results_row_tmp rfl _ _ B 23 zInf (0, 0) _ rfl (setRow_heap _ _ _ _ _ _ HR5.out) Try.underlying23 rfl inf_info) rfl ?_
              rw [HX.out]
              exact ⟨rfl, by rw [HBB.out]; exact below_setRow HB5.out (Nat.le_refl _) _⟩
          · have HE2 := Aside0.mk (HE.out.trans (if_neg k1))
            have a1 : ¬ v0 < 16 := fun h => k1 (.inl h)
            have a2 : ¬ v1 < v0 := fun h => k1 (.inr (.inl h))
            have a3 : ¬ v4 = 0 := fun h => k1 (.inr (.inr h))
            clear HE k1
            by_cases k1 : v6 + 1 < 4 ∨ 24 < v6 + 1 ∨ 4608 < v1 ∨ 655350 < v4
            · have HX : Aside0 (infoF s = (noInf, 3)) := ⟨by
                have : infoE s = 3 := HE2.out.trans (if_pos k1)
                unfold infoF
                rw [this]
                rfl⟩
              have k2 : v6 + 1 < 4 ∨ (¬ v6 + 1 < 4 ∧ 24 < v6 + 1) ∨ (¬ v6 + 1 < 4 ∧ ¬ 24 < v6 + 1 ∧ 4608 < v1) ∨ (¬ v6 + 1 < 4 ∧ ¬ 24 < v6 + 1 ∧ ¬ 4608 < v1 ∧ 655350 < v4) := by omega
              clear k1 HE2 HV
              rcases k2 with k2 | ⟨k2, k3⟩ | ⟨k2, k3, k4⟩ | ⟨k2, k3, k4, k5⟩
              all_goals
                go_wp2_with ((with_reducible refine wpList_store_row ?_ 23 (.tmp 2) (.tmp 100) ?_ B zInf ?_ ?_ 23 zInf HR5.out (inf_infoV _ _ _ _ _ _ _ _ _) ?_ (inf_one _ _ _ _ _ _ _ _ _) ?_); rfl; rfl; rfl; rfl; rfl)
                refine bodyPost_ret (results_row_tmp rfl _ _ B 23 zInf (0, 0) _ rfl (setRow_heap _ _ _ _ _ _ HR5.out) Try.underlying23 rfl inf_info) rfl ?_
                rw [HX.out]
                exact ⟨rfl, by rw [HBB.out]; exact below_setRow HB5.out (Nat.le_refl _) _⟩
            · have HE3 := Aside0.mk (HE2.out.trans (if_neg k1))
              have b1 : ¬ v6 + 1 < 4 := fun h => k1 (.inl h)
              have b2 : ¬ 24 < v6 + 1 := fun h => k1 (.inr (.inl h))
              have b3 : ¬ 4608 < v1 := fun h => k1 (.inr (.inr (.inl h)))
              have b4 : ¬ 655350 < v4 := fun h => k1 (.inr (.inr (.inr h)))
              clear HE2 k1
              by_cases k1 : 1048576 < v7
              · have HX : Aside0 (infoF s = (noInf, 5)) := ⟨by
                  have : infoE s = 5 := HE3.out.trans (if_pos k1)
                  unfold infoF
                  rw [this]
                  rfl⟩
                clear HE3 HV
                go_wp2_with ((with_reducible refine wpList_store_row ?_ 23 (.tmp 2) (.tmp 105) ?_ B zInf ?_ ?_ 23 zInf HR5.out (inf_infoV _ _ _ _ _ _ _ _ _) ?_ (inf_one _ _ _ _ _ _ _ _ _) ?_); rfl; rfl; rfl; rfl; rfl)
                refine bodyPost_ret (results_row_tmp rfl _ _ B 23 zInf (0, 0) _ rfl (setRow_heap _ _ _ _ _ _ HR5.out) Try.underlying23 rfl inf_info) rfl ?_
                rw [HX.out]
                exact ⟨rfl, by rw [HBB.out]; exact below_setRow HB5.out (Nat.le_refl _) _⟩
              · have HX : Aside0 (infoF s = (infoV s, 0)) := ⟨by
                  have : infoE s = 0 := HE3.out.trans (if_neg k1)
                  unfold infoF
                  rw [if_pos this]⟩
                clear HE3
                go_wp2_with (first | ((with_reducible refine wpList_load_row ?_ 23 (.tmp 10) ?_ g5 ?_ 23 #[.int .i64 v0, .int .i64 v1, .int .i64 v2, .int .i64 v3, .int .i64 v4, .int .i64 (v5 + 1), .int .i64 (v6 + 1), .int .i64 v7, .string (s.extract 18 s.size)] (0, 0) _ HI5.out Try.underlying23 ?_ (inf_infoV _ _ _ _ _ _ _ _ _) ?_); rfl; rfl; rfl; rfl) | ((with_reducible refine wpList_store_row ?_ 23 (.tmp 2) (.tmp 106) ?_ B #[.int .i64 v0, .int .i64 v1, .int .i64 v2, .int .i64 v3, .int .i64 v4, .int .i64 (v5 + 1), .int .i64 (v6 + 1), .int .i64 v7, .string (s.extract 18 s.size)] ?_ ?_ 23 zInf HR5.out (inf_infoV _ _ _ _ _ _ _ _ _) ?_ (inf_one _ _ _ _ _ _ _ _ _) ?_); rfl; rfl; rfl; rfl; rfl))
                refine bodyPost_ret (results_row_tmp rfl _ _ B 23 #[.int .i64 v0, .int .i64 v1, .int .i64 v2, .int .i64 v3, .int .i64 v4, .int .i64 (v5 + 1), .int .i64 (v6 + 1), .int .i64 v7, .string (s.extract 18 s.size)] (0, 0) _ rfl (setRow_heap _ _ _ _ _ _ HR5.out) Try.underlying23 rfl inf_info) rfl ?_
                rw [HX.out, HV.out]
                refine ⟨?_, by rw [HBB.out]; exact below_setRow HB5.out (Nat.le_refl _) _⟩
                rw [HS34.out]
                rfl
  · have hF : infoF s = (noInf, 2) := by
      have : infoE s = 2 := by unfold infoE; rw [if_neg (by omega)]
      unfold infoF
      rw [this]
      rfl
    have HF := Aside0.mk hF
    clear hF
    have hne : ((s.size : Int) != 34) = true := by simpa using hsz
    go_enter Try.func8, Try.ntmps8
    go_wp2
    refine bodyPost_ret (results_row_tmp rfl _ _ w.heap.size 23 zInf (0, 0) _ rfl (blk_new w _) Try.underlying23 rfl inf_info) rfl ?_
    rw [HF.out]
    exact ⟨rfl, below_alloc (Below.refl _ _) _⟩
end Go.Proofs.Ytgihacaegmpggaa.Hand
