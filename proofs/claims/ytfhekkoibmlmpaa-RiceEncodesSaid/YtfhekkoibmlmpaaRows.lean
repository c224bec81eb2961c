/-
  No cell of these rows narrows 'for every input' (looked for: loops, veiled, ifaces, maps, wideKeys, modest, calm, conditions, laid).
  DERIVED. THE GIVEN ROWS OF THIS SEAT. 5 by the template 'for every input the law returns true; each argument reads behind the call as it read before'; 0 by the template 'total and deterministic' (their statements: YtfhekkoibmlmpaaTotals.lean).
  GIVEN WITH THE SEED: the statements are not yours to turn. If you find one false, say at which input.
  Laid BY PROGRAM, IN A SANDBOX (cutbox-rows.mjs): the forced cells as the released guide's own fill.sh prints them over the translation ef927cfb236f6236… (all of the seat's roots in one cut). By AI agents, Wed Nov 11 2026. No macro, syntax, notation, axiom, sorry.
-/
import Derived.Test.YtfhekkoibmlmpaaChecked
import GoSem.Claim
import GoSem.ClaimJoined
import GoSem.ClaimMapViews
import Derived.JoinedTies
import Derived.KernelRfl
namespace Go.Proofs.Ytfhekkoibmlmpaa
/- THE CELL 'sum', in the pinned program and in every row, IS THE sha256 OF THE DUMP (.gsa) THAT YtfhekkoibmlmpaaProg.lean LOADS. Nothing in Lean hashes anything: it is a label: what it is worth is what the hold of that sum in a sandbox is worth. -/
noncomputable def Try.pinned : Pinned := { name := "ytfhekkoibmlmpaa", sum := "ef927cfb236f62360c8901cc80bde5977d5948808cc95b9a9e2a2aaaa87be1e8", checked := Try.checked }
namespace Rows
def none {H : Type} : Left H := { results := [], args := [] }

/-- 'lacquerlaw08.RiceEncodes': WHATEVER THE INPUT: true; the input reads as it did. -/
def riceEncodesSpec : ChangeSpec := { name := "riceEncodes", fn := fun _ => fun
  | [d1, d2, d3] => { results := [.lit (.bool true)], args := [d1, d2, d3] }
  | _ => none }
def riceEncodesRow : OpenClaim := { program := "ytfhekkoibmlmpaa", sum := "ef927cfb236f62360c8901cc80bde5977d5948808cc95b9a9e2a2aaaa87be1e8", func := "lacquer/lacquerlaw08.RiceEncodes", spec := "riceEncodes", apart := false }
def RiceEncodesSaid : Prop := riceEncodesRow.holds Try.pinned (OpenSpec.ofChange riceEncodesSpec)

/-- ITS FALSE NEIGHBOUR: 'it returns false'. Refute it at one input. -/
def riceEncodesWrong : ChangeSpec := { name := "riceEncodes", fn := fun _ => fun
  | [d1, d2, d3] => { results := [.lit (.bool false)], args := [d1, d2, d3] }
  | _ => none }
def RiceEncodesWrongFalsely : Prop := riceEncodesRow.holds Try.pinned (OpenSpec.ofChange riceEncodesWrong)

/-- 'lacquerlaw08.RiceDecodes': WHATEVER THE INPUT: true; the input reads as it did. -/
def riceDecodesSpec : ChangeSpec := { name := "riceDecodes", fn := fun _ => fun
  | [d1, d2, d3] => { results := [.lit (.bool true)], args := [d1, d2, d3] }
  | _ => none }
def riceDecodesRow : OpenClaim := { program := "ytfhekkoibmlmpaa", sum := "ef927cfb236f62360c8901cc80bde5977d5948808cc95b9a9e2a2aaaa87be1e8", func := "lacquer/lacquerlaw08.RiceDecodes", spec := "riceDecodes", apart := false }
def RiceDecodesSaid : Prop := riceDecodesRow.holds Try.pinned (OpenSpec.ofChange riceDecodesSpec)

/-- ITS FALSE NEIGHBOUR: 'it returns false'. Refute it at one input. -/
def riceDecodesWrong : ChangeSpec := { name := "riceDecodes", fn := fun _ => fun
  | [d1, d2, d3] => { results := [.lit (.bool false)], args := [d1, d2, d3] }
  | _ => none }
def RiceDecodesWrongFalsely : Prop := riceDecodesRow.holds Try.pinned (OpenSpec.ofChange riceDecodesWrong)

/-- 'lacquerlaw08.RiceBack': WHATEVER THE INPUT: true; the input reads as it did. -/
def riceBackSpec : ChangeSpec := { name := "riceBack", fn := fun _ => fun
  | [d1, d2, d3] => { results := [.lit (.bool true)], args := [d1, d2, d3] }
  | _ => none }
def riceBackRow : OpenClaim := { program := "ytfhekkoibmlmpaa", sum := "ef927cfb236f62360c8901cc80bde5977d5948808cc95b9a9e2a2aaaa87be1e8", func := "lacquer/lacquerlaw08.RiceBack", spec := "riceBack", apart := false }
def RiceBackSaid : Prop := riceBackRow.holds Try.pinned (OpenSpec.ofChange riceBackSpec)

/-- ITS FALSE NEIGHBOUR: 'it returns false'. Refute it at one input. -/
def riceBackWrong : ChangeSpec := { name := "riceBack", fn := fun _ => fun
  | [d1, d2, d3] => { results := [.lit (.bool false)], args := [d1, d2, d3] }
  | _ => none }
def RiceBackWrongFalsely : Prop := riceBackRow.holds Try.pinned (OpenSpec.ofChange riceBackWrong)

/-- 'lacquerlaw08.RiceBest': WHATEVER THE INPUT: true; the input reads as it did. -/
def riceBestSpec : ChangeSpec := { name := "riceBest", fn := fun _ => fun
  | [d1, d2, d3] => { results := [.lit (.bool true)], args := [d1, d2, d3] }
  | _ => none }
def riceBestRow : OpenClaim := { program := "ytfhekkoibmlmpaa", sum := "ef927cfb236f62360c8901cc80bde5977d5948808cc95b9a9e2a2aaaa87be1e8", func := "lacquer/lacquerlaw08.RiceBest", spec := "riceBest", apart := false }
def RiceBestSaid : Prop := riceBestRow.holds Try.pinned (OpenSpec.ofChange riceBestSpec)

/-- ITS FALSE NEIGHBOUR: 'it returns false'. Refute it at one input. -/
def riceBestWrong : ChangeSpec := { name := "riceBest", fn := fun _ => fun
  | [d1, d2, d3] => { results := [.lit (.bool false)], args := [d1, d2, d3] }
  | _ => none }
def RiceBestWrongFalsely : Prop := riceBestRow.holds Try.pinned (OpenSpec.ofChange riceBestWrong)

/-- 'lacquerlaw08.RiceLeast': WHATEVER THE INPUT: true; the input reads as it did. -/
def riceLeastSpec : ChangeSpec := { name := "riceLeast", fn := fun _ => fun
  | [d1, d2, d3] => { results := [.lit (.bool true)], args := [d1, d2, d3] }
  | _ => none }
def riceLeastRow : OpenClaim := { program := "ytfhekkoibmlmpaa", sum := "ef927cfb236f62360c8901cc80bde5977d5948808cc95b9a9e2a2aaaa87be1e8", func := "lacquer/lacquerlaw08.RiceLeast", spec := "riceLeast", apart := false }
def RiceLeastSaid : Prop := riceLeastRow.holds Try.pinned (OpenSpec.ofChange riceLeastSpec)

/-- ITS FALSE NEIGHBOUR: 'it returns false'. Refute it at one input. -/
def riceLeastWrong : ChangeSpec := { name := "riceLeast", fn := fun _ => fun
  | [d1, d2, d3] => { results := [.lit (.bool false)], args := [d1, d2, d3] }
  | _ => none }
def RiceLeastWrongFalsely : Prop := riceLeastRow.holds Try.pinned (OpenSpec.ofChange riceLeastWrong)

/- THE SECOND FORM. 'bulk': how many values and letters a reading holds, each counted each time it is reached (what is shared counts as often as it is met; a slice's spare places count too). A statement '..UptoSaid' is the law's where the arguments, and the package variables that the reading takes, are together of bulk at most 1048576: NARROWER than '..Said'. Prove '..Said' where nothing that the law and all that it calls make is longer than what came in: it says more and counts as full. Else prove '..UptoSaid'. A law counts once. -/
mutual
def uptoBulk {H : Type} : DataW H → Nat
  | .lit (.string bytes) => bytes.length + 1
  | .lit _ => 1
  | .nil => 1
  | .ptr d => uptoBulk d + 1
  | .slice elems spare => uptoBulkAll elems + uptoBulkAll spare + 1
  | .agg parts => uptoBulkAll parts + 1
  | .iface _ d => uptoBulk d + 1
  | .map entries => uptoBulkEntries entries + 1
  | .held _ => 1
def uptoBulkAll {H : Type} : List (DataW H) → Nat
  | [] => 0
  | d :: r => uptoBulk d + uptoBulkAll r
def uptoBulkEntries {H : Type} : List (Lit × DataW H) → Nat
  | [] => 0
  | x :: r => uptoBulkEntry x + uptoBulkEntries r
def uptoBulkEntry {H : Type} : Lit × DataW H → Nat
  | (.string bytes, d) => bytes.length + uptoBulk d + 1
  | (_, d) => uptoBulk d + 1
 end
def uptoSmall : (H : Type) → List (DataW H) → Bool := fun _ ds => decide (uptoBulkAll ds ≤ 1048576)
def OpenSpec.upto (s : _root_.Go.ChangeSpec) : _root_.Go.OpenSpec := { _root_.Go.OpenSpec.ofChange s with cond := some uptoSmall }

/-- 'lacquerlaw08.RiceEncodes', WHERE WHAT IT READS IS OF BULK AT MOST 1048576: true; the input reads as it did. -/
def riceEncodesUptoRow : OpenClaim := { program := "ytfhekkoibmlmpaa", sum := "ef927cfb236f62360c8901cc80bde5977d5948808cc95b9a9e2a2aaaa87be1e8", func := "lacquer/lacquerlaw08.RiceEncodes", spec := "riceEncodes", apart := false, narrowed := true }
def RiceEncodesUptoSaid : Prop := riceEncodesUptoRow.holds Try.pinned (OpenSpec.upto riceEncodesSpec)

/-- 'lacquerlaw08.RiceDecodes', WHERE WHAT IT READS IS OF BULK AT MOST 1048576: true; the input reads as it did. -/
def riceDecodesUptoRow : OpenClaim := { program := "ytfhekkoibmlmpaa", sum := "ef927cfb236f62360c8901cc80bde5977d5948808cc95b9a9e2a2aaaa87be1e8", func := "lacquer/lacquerlaw08.RiceDecodes", spec := "riceDecodes", apart := false, narrowed := true }
def RiceDecodesUptoSaid : Prop := riceDecodesUptoRow.holds Try.pinned (OpenSpec.upto riceDecodesSpec)

/-- 'lacquerlaw08.RiceBack', WHERE WHAT IT READS IS OF BULK AT MOST 1048576: true; the input reads as it did. -/
def riceBackUptoRow : OpenClaim := { program := "ytfhekkoibmlmpaa", sum := "ef927cfb236f62360c8901cc80bde5977d5948808cc95b9a9e2a2aaaa87be1e8", func := "lacquer/lacquerlaw08.RiceBack", spec := "riceBack", apart := false, narrowed := true }
def RiceBackUptoSaid : Prop := riceBackUptoRow.holds Try.pinned (OpenSpec.upto riceBackSpec)

/-- 'lacquerlaw08.RiceBest', WHERE WHAT IT READS IS OF BULK AT MOST 1048576: true; the input reads as it did. -/
def riceBestUptoRow : OpenClaim := { program := "ytfhekkoibmlmpaa", sum := "ef927cfb236f62360c8901cc80bde5977d5948808cc95b9a9e2a2aaaa87be1e8", func := "lacquer/lacquerlaw08.RiceBest", spec := "riceBest", apart := false, narrowed := true }
def RiceBestUptoSaid : Prop := riceBestUptoRow.holds Try.pinned (OpenSpec.upto riceBestSpec)

/-- 'lacquerlaw08.RiceLeast', WHERE WHAT IT READS IS OF BULK AT MOST 1048576: true; the input reads as it did. -/
def riceLeastUptoRow : OpenClaim := { program := "ytfhekkoibmlmpaa", sum := "ef927cfb236f62360c8901cc80bde5977d5948808cc95b9a9e2a2aaaa87be1e8", func := "lacquer/lacquerlaw08.RiceLeast", spec := "riceLeast", apart := false, narrowed := true }
def RiceLeastUptoSaid : Prop := riceLeastUptoRow.holds Try.pinned (OpenSpec.upto riceLeastSpec)

end Rows
end Go.Proofs.Ytfhekkoibmlmpaa
