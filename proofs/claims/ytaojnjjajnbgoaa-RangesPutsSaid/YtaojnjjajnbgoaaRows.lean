/-
  No cell of these rows narrows 'for every input' (looked for: loops, veiled, ifaces, maps, wideKeys, modest, calm, conditions, laid).
  DERIVED. THE GIVEN ROWS OF THIS SEAT. 4 by the template 'for every input the law returns true; each argument reads behind the call as it read before'; 0 by the template 'total and deterministic' (their statements: YtaojnjjajnbgoaaTotals.lean).
  GIVEN WITH THE SEED: the statements are not yours to turn. If you find one false, say at which input.
  Laid BY PROGRAM, IN A SANDBOX (cutbox-rows.mjs): the forced cells as the released guide's own fill.sh prints them over the translation c5a1a359889e631a… (all of the seat's roots in one cut). By AI agents, Wed Nov 11 2026. No macro, syntax, notation, axiom, sorry.
-/
import Derived.Test.YtaojnjjajnbgoaaChecked
import GoSem.Claim
import GoSem.ClaimJoined
import GoSem.ClaimMapViews
import Derived.JoinedTies
import Derived.KernelRfl
namespace Go.Proofs.Ytaojnjjajnbgoaa
/- THE CELL 'sum', in the pinned program and in every row, IS THE sha256 OF THE DUMP (.gsa) THAT YtaojnjjajnbgoaaProg.lean LOADS. Nothing in Lean hashes anything: it is a label: what it is worth is what the hold of that sum in a sandbox is worth. -/
noncomputable def Try.pinned : Pinned := { name := "ytaojnjjajnbgoaa", sum := "c5a1a359889e631af39b0875e7be2691ea8c3e71bd82237e6f9078d13f713369", checked := Try.checked }
namespace Rows
def none {H : Type} : Left H := { results := [], args := [] }

/-- 'lacquerlaw18.RangesPuts': WHATEVER THE INPUT: true; the input reads as it did. -/
def rangesPutsSpec : ChangeSpec := { name := "rangesPuts", fn := fun _ => fun
  | [d] => { results := [.lit (.bool true)], args := [d] }
  | _ => none }
def rangesPutsRow : OpenClaim := { program := "ytaojnjjajnbgoaa", sum := "c5a1a359889e631af39b0875e7be2691ea8c3e71bd82237e6f9078d13f713369", func := "lacquer/lacquerlaw18.RangesPuts", spec := "rangesPuts", unfollowed := true, recurses := true, apart := false }
def RangesPutsSaid : Prop := rangesPutsRow.holds Try.pinned (OpenSpec.ofChange rangesPutsSpec)

/-- ITS FALSE NEIGHBOUR: 'it returns false'. Refute it at one input. -/
def rangesPutsWrong : ChangeSpec := { name := "rangesPuts", fn := fun _ => fun
  | [d] => { results := [.lit (.bool false)], args := [d] }
  | _ => none }
def RangesPutsWrongFalsely : Prop := rangesPutsRow.holds Try.pinned (OpenSpec.ofChange rangesPutsWrong)

/-- 'lacquerlaw18.RangesBack': WHATEVER THE INPUT: true; the input reads as it did. -/
def rangesBackSpec : ChangeSpec := { name := "rangesBack", fn := fun _ => fun
  | [d1, d2] => { results := [.lit (.bool true)], args := [d1, d2] }
  | _ => none }
def rangesBackRow : OpenClaim := { program := "ytaojnjjajnbgoaa", sum := "c5a1a359889e631af39b0875e7be2691ea8c3e71bd82237e6f9078d13f713369", func := "lacquer/lacquerlaw18.RangesBack", spec := "rangesBack", unfollowed := true, recurses := true, apart := false }
def RangesBackSaid : Prop := rangesBackRow.holds Try.pinned (OpenSpec.ofChange rangesBackSpec)

/-- ITS FALSE NEIGHBOUR: 'it returns false'. Refute it at one input. -/
def rangesBackWrong : ChangeSpec := { name := "rangesBack", fn := fun _ => fun
  | [d1, d2] => { results := [.lit (.bool false)], args := [d1, d2] }
  | _ => none }
def RangesBackWrongFalsely : Prop := rangesBackRow.holds Try.pinned (OpenSpec.ofChange rangesBackWrong)

/-- 'lacquerlaw18.RangesLess': WHATEVER THE INPUT: true; the input reads as it did. -/
def rangesLessSpec : ChangeSpec := { name := "rangesLess", fn := fun _ => fun
  | [d1, d2] => { results := [.lit (.bool true)], args := [d1, d2] }
  | _ => none }
def rangesLessRow : OpenClaim := { program := "ytaojnjjajnbgoaa", sum := "c5a1a359889e631af39b0875e7be2691ea8c3e71bd82237e6f9078d13f713369", func := "lacquer/lacquerlaw18.RangesLess", spec := "rangesLess", unfollowed := true, recurses := true, apart := false }
def RangesLessSaid : Prop := rangesLessRow.holds Try.pinned (OpenSpec.ofChange rangesLessSpec)

/-- ITS FALSE NEIGHBOUR: 'it returns false'. Refute it at one input. -/
def rangesLessWrong : ChangeSpec := { name := "rangesLess", fn := fun _ => fun
  | [d1, d2] => { results := [.lit (.bool false)], args := [d1, d2] }
  | _ => none }
def RangesLessWrongFalsely : Prop := rangesLessRow.holds Try.pinned (OpenSpec.ofChange rangesLessWrong)

/-- 'lacquerlaw18.RangesNone': WHATEVER THE INPUT: true; the input reads as it did. -/
def rangesNoneSpec : ChangeSpec := { name := "rangesNone", fn := fun _ => fun
  | [d] => { results := [.lit (.bool true)], args := [d] }
  | _ => none }
def rangesNoneRow : OpenClaim := { program := "ytaojnjjajnbgoaa", sum := "c5a1a359889e631af39b0875e7be2691ea8c3e71bd82237e6f9078d13f713369", func := "lacquer/lacquerlaw18.RangesNone", spec := "rangesNone", unfollowed := true, recurses := true, apart := false }
def RangesNoneSaid : Prop := rangesNoneRow.holds Try.pinned (OpenSpec.ofChange rangesNoneSpec)

/-- ITS FALSE NEIGHBOUR: 'it returns false'. Refute it at one input. -/
def rangesNoneWrong : ChangeSpec := { name := "rangesNone", fn := fun _ => fun
  | [d] => { results := [.lit (.bool false)], args := [d] }
  | _ => none }
def RangesNoneWrongFalsely : Prop := rangesNoneRow.holds Try.pinned (OpenSpec.ofChange rangesNoneWrong)

/- THE SECOND FORM. 'bulk': how many values and letters a reading holds, each counted each time it is reached (what is shared counts as often as it is met; a slice's spare places count too). A statement '..UptoSaid' is the law's where the arguments, and the package variables that the reading takes, are together of bulk at most 1048576: NARROWER than '..Said'. Prove '..Said' where nothing that the law and all that it calls make is longer than what came in: it says more and counts as full. Else prove '..UptoSaid'. A law counts once. -/
mutual
def uptoBulk {H : Type} : DataW H → Nat
  | .lit (.string bytes) => bytes.length + 1
  | .lit _ => 1
  | .nil => 1
  | .ptr d => uptoBulk d + 1
  | .slice elems spare => uptoBulkAll elems + uptoBulkAll spare + 1
  | .agg parts => uptoBulkAll parts + 1
  | .iface _ d => uptoBulk d + 1
  | .map entries => uptoBulkEntries entries + 1
  | .held _ => 1
def uptoBulkAll {H : Type} : List (DataW H) → Nat
  | [] => 0
  | d :: r => uptoBulk d + uptoBulkAll r
def uptoBulkEntries {H : Type} : List (Lit × DataW H) → Nat
  | [] => 0
  | x :: r => uptoBulkEntry x + uptoBulkEntries r
def uptoBulkEntry {H : Type} : Lit × DataW H → Nat
  | (.string bytes, d) => bytes.length + uptoBulk d + 1
  | (_, d) => uptoBulk d + 1
 end
def uptoSmall : (H : Type) → List (DataW H) → Bool := fun _ ds => decide (uptoBulkAll ds ≤ 1048576)
def OpenSpec.upto (s : _root_.Go.ChangeSpec) : _root_.Go.OpenSpec := { _root_.Go.OpenSpec.ofChange s with cond := some uptoSmall }

/-- 'lacquerlaw18.RangesPuts', WHERE WHAT IT READS IS OF BULK AT MOST 1048576: true; the input reads as it did. -/
def rangesPutsUptoRow : OpenClaim := { program := "ytaojnjjajnbgoaa", sum := "c5a1a359889e631af39b0875e7be2691ea8c3e71bd82237e6f9078d13f713369", func := "lacquer/lacquerlaw18.RangesPuts", spec := "rangesPuts", unfollowed := true, recurses := true, apart := false, narrowed := true }
def RangesPutsUptoSaid : Prop := rangesPutsUptoRow.holds Try.pinned (OpenSpec.upto rangesPutsSpec)

/-- 'lacquerlaw18.RangesBack', WHERE WHAT IT READS IS OF BULK AT MOST 1048576: true; the input reads as it did. -/
def rangesBackUptoRow : OpenClaim := { program := "ytaojnjjajnbgoaa", sum := "c5a1a359889e631af39b0875e7be2691ea8c3e71bd82237e6f9078d13f713369", func := "lacquer/lacquerlaw18.RangesBack", spec := "rangesBack", unfollowed := true, recurses := true, apart := false, narrowed := true }
def RangesBackUptoSaid : Prop := rangesBackUptoRow.holds Try.pinned (OpenSpec.upto rangesBackSpec)

/-- 'lacquerlaw18.RangesLess', WHERE WHAT IT READS IS OF BULK AT MOST 1048576: true; the input reads as it did. -/
def rangesLessUptoRow : OpenClaim := { program := "ytaojnjjajnbgoaa", sum := "c5a1a359889e631af39b0875e7be2691ea8c3e71bd82237e6f9078d13f713369", func := "lacquer/lacquerlaw18.RangesLess", spec := "rangesLess", unfollowed := true, recurses := true, apart := false, narrowed := true }
def RangesLessUptoSaid : Prop := rangesLessUptoRow.holds Try.pinned (OpenSpec.upto rangesLessSpec)

/-- 'lacquerlaw18.RangesNone', WHERE WHAT IT READS IS OF BULK AT MOST 1048576: true; the input reads as it did. -/
def rangesNoneUptoRow : OpenClaim := { program := "ytaojnjjajnbgoaa", sum := "c5a1a359889e631af39b0875e7be2691ea8c3e71bd82237e6f9078d13f713369", func := "lacquer/lacquerlaw18.RangesNone", spec := "rangesNone", unfollowed := true, recurses := true, apart := false, narrowed := true }
def RangesNoneUptoSaid : Prop := rangesNoneUptoRow.holds Try.pinned (OpenSpec.upto rangesNoneSpec)

end Rows
end Go.Proofs.Ytaojnjjajnbgoaa
