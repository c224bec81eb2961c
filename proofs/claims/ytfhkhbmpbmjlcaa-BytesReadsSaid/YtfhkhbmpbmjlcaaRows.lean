/-
  No cell of these rows narrows 'for every input' (looked for: loops, veiled, ifaces, maps, wideKeys, modest, calm, conditions, laid).
  DERIVED. THE GIVEN ROWS OF THIS SEAT. 5 by the template 'for every input the law returns true; each argument reads behind the call as it read before'; 0 by the template 'total and deterministic' (their statements: YtfhkhbmpbmjlcaaTotals.lean).
  GIVEN WITH THE SEED: the statements are not yours to turn. If you find one false, say at which input.
  Laid BY PROGRAM, IN A SANDBOX (cutbox-rows.mjs): the forced cells as the released guide's own fill.sh prints them over the translation 0ec7c456458140dc… (all of the seat's roots in one cut). By AI agents, Wed Nov 11 2026. No macro, syntax, notation, axiom, sorry.
-/
import Derived.Test.YtfhkhbmpbmjlcaaChecked
import GoSem.Claim
import GoSem.ClaimJoined
import GoSem.ClaimMapViews
import Derived.JoinedTies
import Derived.KernelRfl
namespace Go.Proofs.Ytfhkhbmpbmjlcaa
/- THE CELL 'sum', in the pinned program and in every row, IS THE sha256 OF THE DUMP (.gsa) THAT YtfhkhbmpbmjlcaaProg.lean LOADS. Nothing in Lean hashes anything: it is a label: what it is worth is what the hold of that sum in a sandbox is worth. -/
noncomputable def Try.pinned : Pinned := { name := "ytfhkhbmpbmjlcaa", sum := "0ec7c456458140dc5f415ddf111c06fb366dbbf5e45d4ad94694511b6c77e462", checked := Try.checked }
namespace Rows
def none {H : Type} : Left H := { results := [], args := [] }

/-- 'lacquerlaw02.BytesLays': WHATEVER THE INPUT: true; the input reads as it did. -/
def bytesLaysSpec : ChangeSpec := { name := "bytesLays", fn := fun _ => fun
  | [d1, d2] => { results := [.lit (.bool true)], args := [d1, d2] }
  | _ => none }
def bytesLaysRow : OpenClaim := { program := "ytfhkhbmpbmjlcaa", sum := "0ec7c456458140dc5f415ddf111c06fb366dbbf5e45d4ad94694511b6c77e462", func := "lacquer/lacquerlaw02.BytesLays", spec := "bytesLays", apart := false }
def BytesLaysSaid : Prop := bytesLaysRow.holds Try.pinned (OpenSpec.ofChange bytesLaysSpec)

/-- ITS FALSE NEIGHBOUR: 'it returns false'. Refute it at one input. -/
def bytesLaysWrong : ChangeSpec := { name := "bytesLays", fn := fun _ => fun
  | [d1, d2] => { results := [.lit (.bool false)], args := [d1, d2] }
  | _ => none }
def BytesLaysWrongFalsely : Prop := bytesLaysRow.holds Try.pinned (OpenSpec.ofChange bytesLaysWrong)

/-- 'lacquerlaw02.BytesCodes': WHATEVER THE INPUT: true; the input reads as it did. -/
def bytesCodesSpec : ChangeSpec := { name := "bytesCodes", fn := fun _ => fun
  | [d] => { results := [.lit (.bool true)], args := [d] }
  | _ => none }
def bytesCodesRow : OpenClaim := { program := "ytfhkhbmpbmjlcaa", sum := "0ec7c456458140dc5f415ddf111c06fb366dbbf5e45d4ad94694511b6c77e462", func := "lacquer/lacquerlaw02.BytesCodes", spec := "bytesCodes", apart := false }
def BytesCodesSaid : Prop := bytesCodesRow.holds Try.pinned (OpenSpec.ofChange bytesCodesSpec)

/-- ITS FALSE NEIGHBOUR: 'it returns false'. Refute it at one input. -/
def bytesCodesWrong : ChangeSpec := { name := "bytesCodes", fn := fun _ => fun
  | [d] => { results := [.lit (.bool false)], args := [d] }
  | _ => none }
def BytesCodesWrongFalsely : Prop := bytesCodesRow.holds Try.pinned (OpenSpec.ofChange bytesCodesWrong)

/-- 'lacquerlaw02.BytesOrder': WHATEVER THE INPUT: true; the input reads as it did. -/
def bytesOrderSpec : ChangeSpec := { name := "bytesOrder", fn := fun _ => fun
  | [d1, d2] => { results := [.lit (.bool true)], args := [d1, d2] }
  | _ => none }
def bytesOrderRow : OpenClaim := { program := "ytfhkhbmpbmjlcaa", sum := "0ec7c456458140dc5f415ddf111c06fb366dbbf5e45d4ad94694511b6c77e462", func := "lacquer/lacquerlaw02.BytesOrder", spec := "bytesOrder", apart := false }
def BytesOrderSaid : Prop := bytesOrderRow.holds Try.pinned (OpenSpec.ofChange bytesOrderSpec)

/-- ITS FALSE NEIGHBOUR: 'it returns false'. Refute it at one input. -/
def bytesOrderWrong : ChangeSpec := { name := "bytesOrder", fn := fun _ => fun
  | [d1, d2] => { results := [.lit (.bool false)], args := [d1, d2] }
  | _ => none }
def BytesOrderWrongFalsely : Prop := bytesOrderRow.holds Try.pinned (OpenSpec.ofChange bytesOrderWrong)

/-- 'lacquerlaw02.BytesReads': WHATEVER THE INPUT: true; the input reads as it did. -/
def bytesReadsSpec : ChangeSpec := { name := "bytesReads", fn := fun _ => fun
  | [d] => { results := [.lit (.bool true)], args := [d] }
  | _ => none }
def bytesReadsRow : OpenClaim := { program := "ytfhkhbmpbmjlcaa", sum := "0ec7c456458140dc5f415ddf111c06fb366dbbf5e45d4ad94694511b6c77e462", func := "lacquer/lacquerlaw02.BytesReads", spec := "bytesReads", apart := false }
def BytesReadsSaid : Prop := bytesReadsRow.holds Try.pinned (OpenSpec.ofChange bytesReadsSpec)

/-- ITS FALSE NEIGHBOUR: 'it returns false'. Refute it at one input. -/
def bytesReadsWrong : ChangeSpec := { name := "bytesReads", fn := fun _ => fun
  | [d] => { results := [.lit (.bool false)], args := [d] }
  | _ => none }
def BytesReadsWrongFalsely : Prop := bytesReadsRow.holds Try.pinned (OpenSpec.ofChange bytesReadsWrong)

/-- 'lacquerlaw02.BytesBack': WHATEVER THE INPUT: true; the input reads as it did. -/
def bytesBackSpec : ChangeSpec := { name := "bytesBack", fn := fun _ => fun
  | [d1, d2, d3] => { results := [.lit (.bool true)], args := [d1, d2, d3] }
  | _ => none }
def bytesBackRow : OpenClaim := { program := "ytfhkhbmpbmjlcaa", sum := "0ec7c456458140dc5f415ddf111c06fb366dbbf5e45d4ad94694511b6c77e462", func := "lacquer/lacquerlaw02.BytesBack", spec := "bytesBack", apart := false }
def BytesBackSaid : Prop := bytesBackRow.holds Try.pinned (OpenSpec.ofChange bytesBackSpec)

/-- ITS FALSE NEIGHBOUR: 'it returns false'. Refute it at one input. -/
def bytesBackWrong : ChangeSpec := { name := "bytesBack", fn := fun _ => fun
  | [d1, d2, d3] => { results := [.lit (.bool false)], args := [d1, d2, d3] }
  | _ => none }
def BytesBackWrongFalsely : Prop := bytesBackRow.holds Try.pinned (OpenSpec.ofChange bytesBackWrong)

/- THE SECOND FORM. 'bulk': how many values and letters a reading holds, each counted each time it is reached (what is shared counts as often as it is met; a slice's spare places count too). A statement '..UptoSaid' is the law's where the arguments, and the package variables that the reading takes, are together of bulk at most 1048576: NARROWER than '..Said'. Prove '..Said' where nothing that the law and all that it calls make is longer than what came in: it says more and counts as full. Else prove '..UptoSaid'. A law counts once. -/
mutual
def uptoBulk {H : Type} : DataW H → Nat
  | .lit (.string bytes) => bytes.length + 1
  | .lit _ => 1
  | .nil => 1
  | .ptr d => uptoBulk d + 1
  | .slice elems spare => uptoBulkAll elems + uptoBulkAll spare + 1
  | .agg parts => uptoBulkAll parts + 1
  | .iface _ d => uptoBulk d + 1
  | .map entries => uptoBulkEntries entries + 1
  | .held _ => 1
def uptoBulkAll {H : Type} : List (DataW H) → Nat
  | [] => 0
  | d :: r => uptoBulk d + uptoBulkAll r
def uptoBulkEntries {H : Type} : List (Lit × DataW H) → Nat
  | [] => 0
  | x :: r => uptoBulkEntry x + uptoBulkEntries r
def uptoBulkEntry {H : Type} : Lit × DataW H → Nat
  | (.string bytes, d) => bytes.length + uptoBulk d + 1
  | (_, d) => uptoBulk d + 1
 end
def uptoSmall : (H : Type) → List (DataW H) → Bool := fun _ ds => decide (uptoBulkAll ds ≤ 1048576)
def OpenSpec.upto (s : _root_.Go.ChangeSpec) : _root_.Go.OpenSpec := { _root_.Go.OpenSpec.ofChange s with cond := some uptoSmall }

/-- 'lacquerlaw02.BytesLays', WHERE WHAT IT READS IS OF BULK AT MOST 1048576: true; the input reads as it did. -/
def bytesLaysUptoRow : OpenClaim := { program := "ytfhkhbmpbmjlcaa", sum := "0ec7c456458140dc5f415ddf111c06fb366dbbf5e45d4ad94694511b6c77e462", func := "lacquer/lacquerlaw02.BytesLays", spec := "bytesLays", apart := false, narrowed := true }
def BytesLaysUptoSaid : Prop := bytesLaysUptoRow.holds Try.pinned (OpenSpec.upto bytesLaysSpec)

/-- 'lacquerlaw02.BytesCodes', WHERE WHAT IT READS IS OF BULK AT MOST 1048576: true; the input reads as it did. -/
def bytesCodesUptoRow : OpenClaim := { program := "ytfhkhbmpbmjlcaa", sum := "0ec7c456458140dc5f415ddf111c06fb366dbbf5e45d4ad94694511b6c77e462", func := "lacquer/lacquerlaw02.BytesCodes", spec := "bytesCodes", apart := false, narrowed := true }
def BytesCodesUptoSaid : Prop := bytesCodesUptoRow.holds Try.pinned (OpenSpec.upto bytesCodesSpec)

/-- 'lacquerlaw02.BytesOrder', WHERE WHAT IT READS IS OF BULK AT MOST 1048576: true; the input reads as it did. -/
def bytesOrderUptoRow : OpenClaim := { program := "ytfhkhbmpbmjlcaa", sum := "0ec7c456458140dc5f415ddf111c06fb366dbbf5e45d4ad94694511b6c77e462", func := "lacquer/lacquerlaw02.BytesOrder", spec := "bytesOrder", apart := false, narrowed := true }
def BytesOrderUptoSaid : Prop := bytesOrderUptoRow.holds Try.pinned (OpenSpec.upto bytesOrderSpec)

/-- 'lacquerlaw02.BytesReads', WHERE WHAT IT READS IS OF BULK AT MOST 1048576: true; the input reads as it did. -/
def bytesReadsUptoRow : OpenClaim := { program := "ytfhkhbmpbmjlcaa", sum := "0ec7c456458140dc5f415ddf111c06fb366dbbf5e45d4ad94694511b6c77e462", func := "lacquer/lacquerlaw02.BytesReads", spec := "bytesReads", apart := false, narrowed := true }
def BytesReadsUptoSaid : Prop := bytesReadsUptoRow.holds Try.pinned (OpenSpec.upto bytesReadsSpec)

/-- 'lacquerlaw02.BytesBack', WHERE WHAT IT READS IS OF BULK AT MOST 1048576: true; the input reads as it did. -/
def bytesBackUptoRow : OpenClaim := { program := "ytfhkhbmpbmjlcaa", sum := "0ec7c456458140dc5f415ddf111c06fb366dbbf5e45d4ad94694511b6c77e462", func := "lacquer/lacquerlaw02.BytesBack", spec := "bytesBack", apart := false, narrowed := true }
def BytesBackUptoSaid : Prop := bytesBackUptoRow.holds Try.pinned (OpenSpec.upto bytesBackSpec)

end Rows
end Go.Proofs.Ytfhkhbmpbmjlcaa
