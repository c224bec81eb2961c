/-
  No cell of these rows narrows 'for every input' (looked for: loops, veiled, ifaces, maps, wideKeys, modest, calm, conditions, laid).
  DERIVED. THE GIVEN ROWS OF THIS SEAT. 5 by the template 'for every input the law returns true; each argument reads behind the call as it read before'; 0 by the template 'total and deterministic' (their statements: YtmpkomhcihgphaaTotals.lean).
  GIVEN WITH THE SEED: the statements are not yours to turn. If you find one false, say at which input.
  Laid BY PROGRAM, IN A SANDBOX (cutbox-rows.mjs): the forced cells as the released guide's own fill.sh prints them over the translation 31695f40f4083631… (all of the seat's roots in one cut). By AI agents, Wed Nov 11 2026. No macro, syntax, notation, axiom, sorry.
-/
import Derived.Test.YtmpkomhcihgphaaChecked
import GoSem.Claim
import GoSem.ClaimJoined
import GoSem.ClaimMapViews
import Derived.JoinedTies
import Derived.KernelRfl
namespace Go.Proofs.Ytmpkomhcihgphaa
/- THE CELL 'sum', in the pinned program and in every row, IS THE sha256 OF THE DUMP (.gsa) THAT YtmpkomhcihgphaaProg.lean LOADS. Nothing in Lean hashes anything: it is a label: what it is worth is what the hold of that sum in a sandbox is worth. -/
noncomputable def Try.pinned : Pinned := { name := "ytmpkomhcihgphaa", sum := "31695f40f4083631981c93a50606b1be5c6c76e8b1ae58c9d85c6c35cac70ae2", checked := Try.checked }
namespace Rows
def none {H : Type} : Left H := { results := [], args := [] }

/-- 'lacquerlaw03.SumsAll': WHATEVER THE INPUT: true; the input reads as it did. -/
def sumsAllSpec : ChangeSpec := { name := "sumsAll", fn := fun _ => fun
  | [d] => { results := [.lit (.bool true)], args := [d] }
  | _ => none }
def sumsAllRow : OpenClaim := { program := "ytmpkomhcihgphaa", sum := "31695f40f4083631981c93a50606b1be5c6c76e8b1ae58c9d85c6c35cac70ae2", func := "lacquer/lacquerlaw03.SumsAll", spec := "sumsAll", apart := false }
def SumsAllSaid : Prop := sumsAllRow.holds Try.pinned (OpenSpec.ofChange sumsAllSpec)

/-- ITS FALSE NEIGHBOUR: 'it returns false'. Refute it at one input. -/
def sumsAllWrong : ChangeSpec := { name := "sumsAll", fn := fun _ => fun
  | [d] => { results := [.lit (.bool false)], args := [d] }
  | _ => none }
def SumsAllWrongFalsely : Prop := sumsAllRow.holds Try.pinned (OpenSpec.ofChange sumsAllWrong)

/-- 'lacquerlaw03.SumsPieces': WHATEVER THE INPUT: true; the input reads as it did. -/
def sumsPiecesSpec : ChangeSpec := { name := "sumsPieces", fn := fun _ => fun
  | [d1, d2] => { results := [.lit (.bool true)], args := [d1, d2] }
  | _ => none }
def sumsPiecesRow : OpenClaim := { program := "ytmpkomhcihgphaa", sum := "31695f40f4083631981c93a50606b1be5c6c76e8b1ae58c9d85c6c35cac70ae2", func := "lacquer/lacquerlaw03.SumsPieces", spec := "sumsPieces", apart := false }
def SumsPiecesSaid : Prop := sumsPiecesRow.holds Try.pinned (OpenSpec.ofChange sumsPiecesSpec)

/-- ITS FALSE NEIGHBOUR: 'it returns false'. Refute it at one input. -/
def sumsPiecesWrong : ChangeSpec := { name := "sumsPieces", fn := fun _ => fun
  | [d1, d2] => { results := [.lit (.bool false)], args := [d1, d2] }
  | _ => none }
def SumsPiecesWrongFalsely : Prop := sumsPiecesRow.holds Try.pinned (OpenSpec.ofChange sumsPiecesWrong)

/-- 'lacquerlaw03.SumsSpoilt': WHATEVER THE INPUT: true; the input reads as it did. -/
def sumsSpoiltSpec : ChangeSpec := { name := "sumsSpoilt", fn := fun _ => fun
  | [d1, d2, d3] => { results := [.lit (.bool true)], args := [d1, d2, d3] }
  | _ => none }
def sumsSpoiltRow : OpenClaim := { program := "ytmpkomhcihgphaa", sum := "31695f40f4083631981c93a50606b1be5c6c76e8b1ae58c9d85c6c35cac70ae2", func := "lacquer/lacquerlaw03.SumsSpoilt", spec := "sumsSpoilt", apart := false }
def SumsSpoiltSaid : Prop := sumsSpoiltRow.holds Try.pinned (OpenSpec.ofChange sumsSpoiltSpec)

/-- ITS FALSE NEIGHBOUR: 'it returns false'. Refute it at one input. -/
def sumsSpoiltWrong : ChangeSpec := { name := "sumsSpoilt", fn := fun _ => fun
  | [d1, d2, d3] => { results := [.lit (.bool false)], args := [d1, d2, d3] }
  | _ => none }
def SumsSpoiltWrongFalsely : Prop := sumsSpoiltRow.holds Try.pinned (OpenSpec.ofChange sumsSpoiltWrong)

/-- 'lacquerlaw03.SumsNought': WHATEVER THE INPUT: true; the input reads as it did. -/
def sumsNoughtSpec : ChangeSpec := { name := "sumsNought", fn := fun _ => fun
  | [d] => { results := [.lit (.bool true)], args := [d] }
  | _ => none }
def sumsNoughtRow : OpenClaim := { program := "ytmpkomhcihgphaa", sum := "31695f40f4083631981c93a50606b1be5c6c76e8b1ae58c9d85c6c35cac70ae2", func := "lacquer/lacquerlaw03.SumsNought", spec := "sumsNought", apart := false }
def SumsNoughtSaid : Prop := sumsNoughtRow.holds Try.pinned (OpenSpec.ofChange sumsNoughtSpec)

/-- ITS FALSE NEIGHBOUR: 'it returns false'. Refute it at one input. -/
def sumsNoughtWrong : ChangeSpec := { name := "sumsNought", fn := fun _ => fun
  | [d] => { results := [.lit (.bool false)], args := [d] }
  | _ => none }
def SumsNoughtWrongFalsely : Prop := sumsNoughtRow.holds Try.pinned (OpenSpec.ofChange sumsNoughtWrong)

/-- 'lacquerlaw03.SumsStraight': WHATEVER THE INPUT: true; the input reads as it did. -/
def sumsStraightSpec : ChangeSpec := { name := "sumsStraight", fn := fun _ => fun
  | [d1, d2] => { results := [.lit (.bool true)], args := [d1, d2] }
  | _ => none }
def sumsStraightRow : OpenClaim := { program := "ytmpkomhcihgphaa", sum := "31695f40f4083631981c93a50606b1be5c6c76e8b1ae58c9d85c6c35cac70ae2", func := "lacquer/lacquerlaw03.SumsStraight", spec := "sumsStraight", apart := false }
def SumsStraightSaid : Prop := sumsStraightRow.holds Try.pinned (OpenSpec.ofChange sumsStraightSpec)

/-- ITS FALSE NEIGHBOUR: 'it returns false'. Refute it at one input. -/
def sumsStraightWrong : ChangeSpec := { name := "sumsStraight", fn := fun _ => fun
  | [d1, d2] => { results := [.lit (.bool false)], args := [d1, d2] }
  | _ => none }
def SumsStraightWrongFalsely : Prop := sumsStraightRow.holds Try.pinned (OpenSpec.ofChange sumsStraightWrong)

/- THE SECOND FORM. 'bulk': how many values and letters a reading holds, each counted each time it is reached (what is shared counts as often as it is met; a slice's spare places count too). A statement '..UptoSaid' is the law's where the arguments, and the package variables that the reading takes, are together of bulk at most 1048576: NARROWER than '..Said'. Prove '..Said' where nothing that the law and all that it calls make is longer than what came in: it says more and counts as full. Else prove '..UptoSaid'. A law counts once. -/
mutual
def uptoBulk {H : Type} : DataW H → Nat
  | .lit (.string bytes) => bytes.length + 1
  | .lit _ => 1
  | .nil => 1
  | .ptr d => uptoBulk d + 1
  | .slice elems spare => uptoBulkAll elems + uptoBulkAll spare + 1
  | .agg parts => uptoBulkAll parts + 1
  | .iface _ d => uptoBulk d + 1
  | .map entries => uptoBulkEntries entries + 1
  | .held _ => 1
def uptoBulkAll {H : Type} : List (DataW H) → Nat
  | [] => 0
  | d :: r => uptoBulk d + uptoBulkAll r
def uptoBulkEntries {H : Type} : List (Lit × DataW H) → Nat
  | [] => 0
  | x :: r => uptoBulkEntry x + uptoBulkEntries r
def uptoBulkEntry {H : Type} : Lit × DataW H → Nat
  | (.string bytes, d) => bytes.length + uptoBulk d + 1
  | (_, d) => uptoBulk d + 1
 end
def uptoSmall : (H : Type) → List (DataW H) → Bool := fun _ ds => decide (uptoBulkAll ds ≤ 1048576)
def OpenSpec.upto (s : _root_.Go.ChangeSpec) : _root_.Go.OpenSpec := { _root_.Go.OpenSpec.ofChange s with cond := some uptoSmall }

/-- 'lacquerlaw03.SumsAll', WHERE WHAT IT READS IS OF BULK AT MOST 1048576: true; the input reads as it did. -/
def sumsAllUptoRow : OpenClaim := { program := "ytmpkomhcihgphaa", sum := "31695f40f4083631981c93a50606b1be5c6c76e8b1ae58c9d85c6c35cac70ae2", func := "lacquer/lacquerlaw03.SumsAll", spec := "sumsAll", apart := false, narrowed := true }
def SumsAllUptoSaid : Prop := sumsAllUptoRow.holds Try.pinned (OpenSpec.upto sumsAllSpec)

/-- 'lacquerlaw03.SumsPieces', WHERE WHAT IT READS IS OF BULK AT MOST 1048576: true; the input reads as it did. -/
def sumsPiecesUptoRow : OpenClaim := { program := "ytmpkomhcihgphaa", sum := "31695f40f4083631981c93a50606b1be5c6c76e8b1ae58c9d85c6c35cac70ae2", func := "lacquer/lacquerlaw03.SumsPieces", spec := "sumsPieces", apart := false, narrowed := true }
def SumsPiecesUptoSaid : Prop := sumsPiecesUptoRow.holds Try.pinned (OpenSpec.upto sumsPiecesSpec)

/-- 'lacquerlaw03.SumsSpoilt', WHERE WHAT IT READS IS OF BULK AT MOST 1048576: true; the input reads as it did. -/
def sumsSpoiltUptoRow : OpenClaim := { program := "ytmpkomhcihgphaa", sum := "31695f40f4083631981c93a50606b1be5c6c76e8b1ae58c9d85c6c35cac70ae2", func := "lacquer/lacquerlaw03.SumsSpoilt", spec := "sumsSpoilt", apart := false, narrowed := true }
def SumsSpoiltUptoSaid : Prop := sumsSpoiltUptoRow.holds Try.pinned (OpenSpec.upto sumsSpoiltSpec)

/-- 'lacquerlaw03.SumsNought', WHERE WHAT IT READS IS OF BULK AT MOST 1048576: true; the input reads as it did. -/
def sumsNoughtUptoRow : OpenClaim := { program := "ytmpkomhcihgphaa", sum := "31695f40f4083631981c93a50606b1be5c6c76e8b1ae58c9d85c6c35cac70ae2", func := "lacquer/lacquerlaw03.SumsNought", spec := "sumsNought", apart := false, narrowed := true }
def SumsNoughtUptoSaid : Prop := sumsNoughtUptoRow.holds Try.pinned (OpenSpec.upto sumsNoughtSpec)

/-- 'lacquerlaw03.SumsStraight', WHERE WHAT IT READS IS OF BULK AT MOST 1048576: true; the input reads as it did. -/
def sumsStraightUptoRow : OpenClaim := { program := "ytmpkomhcihgphaa", sum := "31695f40f4083631981c93a50606b1be5c6c76e8b1ae58c9d85c6c35cac70ae2", func := "lacquer/lacquerlaw03.SumsStraight", spec := "sumsStraight", apart := false, narrowed := true }
def SumsStraightUptoSaid : Prop := sumsStraightUptoRow.holds Try.pinned (OpenSpec.upto sumsStraightSpec)

end Rows
end Go.Proofs.Ytmpkomhcihgphaa
