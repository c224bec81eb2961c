/-
  No cell of these rows narrows 'for every input' (looked for: loops, veiled, ifaces, maps, wideKeys, modest, calm, conditions, laid).
  DERIVED. THE GIVEN ROWS OF THIS SEAT. 5 by the template 'for every input the law returns true; each argument reads behind the call as it read before'; 0 by the template 'total and deterministic' (their statements: YtgihacaegmpggaaTotals.lean).
  GIVEN WITH THE SEED: the statements are not yours to turn. If you find one false, say at which input.
  Laid BY PROGRAM, IN A SANDBOX (cutbox-rows.mjs): the forced cells as the released guide's own fill.sh prints them over the translation 13e9decbd447f9d6… (all of the seat's roots in one cut). By AI agents, Wed Nov 11 2026. No macro, syntax, notation, axiom, sorry.
-/
import Derived.Test.YtgihacaegmpggaaChecked
import GoSem.Claim
import GoSem.ClaimJoined
import GoSem.ClaimMapViews
import Derived.JoinedTies
import Derived.KernelRfl
namespace Go.Proofs.Ytgihacaegmpggaa
/- THE CELL 'sum', in the pinned program and in every row, IS THE sha256 OF THE DUMP (.gsa) THAT YtgihacaegmpggaaProg.lean LOADS. Nothing in Lean hashes anything: it is a label: what it is worth is what the hold of that sum in a sandbox is worth. -/
noncomputable def Try.pinned : Pinned := { name := "ytgihacaegmpggaa", sum := "13e9decbd447f9d60ddc0ae1fc9e51b5143e776b3a23c0af51673f86a65e7547", checked := Try.checked }
namespace Rows
def none {H : Type} : Left H := { results := [], args := [] }

/-- 'lacquerlaw13.MetaInfos': WHATEVER THE INPUT: true; the input reads as it did. -/
def metaInfosSpec : ChangeSpec := { name := "metaInfos", fn := fun _ => fun
  | [d1, d2] => { results := [.lit (.bool true)], args := [d1, d2] }
  | _ => none }
def metaInfosRow : OpenClaim := { program := "ytgihacaegmpggaa", sum := "13e9decbd447f9d60ddc0ae1fc9e51b5143e776b3a23c0af51673f86a65e7547", func := "lacquer/lacquerlaw13.MetaInfos", spec := "metaInfos", apart := false }
def MetaInfosSaid : Prop := metaInfosRow.holds Try.pinned (OpenSpec.ofChange metaInfosSpec)

/-- ITS FALSE NEIGHBOUR: 'it returns false'. Refute it at one input. -/
def metaInfosWrong : ChangeSpec := { name := "metaInfos", fn := fun _ => fun
  | [d1, d2] => { results := [.lit (.bool false)], args := [d1, d2] }
  | _ => none }
def MetaInfosWrongFalsely : Prop := metaInfosRow.holds Try.pinned (OpenSpec.ofChange metaInfosWrong)

/-- 'lacquerlaw13.MetaChecks': WHATEVER THE INPUT: true; the input reads as it did. -/
def metaChecksSpec : ChangeSpec := { name := "metaChecks", fn := fun _ => fun
  | [d] => { results := [.lit (.bool true)], args := [d] }
  | _ => none }
def metaChecksRow : OpenClaim := { program := "ytgihacaegmpggaa", sum := "13e9decbd447f9d60ddc0ae1fc9e51b5143e776b3a23c0af51673f86a65e7547", func := "lacquer/lacquerlaw13.MetaChecks", spec := "metaChecks", apart := false }
def MetaChecksSaid : Prop := metaChecksRow.holds Try.pinned (OpenSpec.ofChange metaChecksSpec)

/-- ITS FALSE NEIGHBOUR: 'it returns false'. Refute it at one input. -/
def metaChecksWrong : ChangeSpec := { name := "metaChecks", fn := fun _ => fun
  | [d] => { results := [.lit (.bool false)], args := [d] }
  | _ => none }
def MetaChecksWrongFalsely : Prop := metaChecksRow.holds Try.pinned (OpenSpec.ofChange metaChecksWrong)

/-- 'lacquerlaw13.MetaParses': WHATEVER THE INPUT: true; the input reads as it did. -/
def metaParsesSpec : ChangeSpec := { name := "metaParses", fn := fun _ => fun
  | [d] => { results := [.lit (.bool true)], args := [d] }
  | _ => none }
def metaParsesRow : OpenClaim := { program := "ytgihacaegmpggaa", sum := "13e9decbd447f9d60ddc0ae1fc9e51b5143e776b3a23c0af51673f86a65e7547", func := "lacquer/lacquerlaw13.MetaParses", spec := "metaParses", apart := false }
def MetaParsesSaid : Prop := metaParsesRow.holds Try.pinned (OpenSpec.ofChange metaParsesSpec)

/-- ITS FALSE NEIGHBOUR: 'it returns false'. Refute it at one input. -/
def metaParsesWrong : ChangeSpec := { name := "metaParses", fn := fun _ => fun
  | [d] => { results := [.lit (.bool false)], args := [d] }
  | _ => none }
def MetaParsesWrongFalsely : Prop := metaParsesRow.holds Try.pinned (OpenSpec.ofChange metaParsesWrong)

/-- 'lacquerlaw13.MetaBuilds': WHATEVER THE INPUT: true; the input reads as it did. -/
def metaBuildsSpec : ChangeSpec := { name := "metaBuilds", fn := fun _ => fun
  | [d] => { results := [.lit (.bool true)], args := [d] }
  | _ => none }
def metaBuildsRow : OpenClaim := { program := "ytgihacaegmpggaa", sum := "13e9decbd447f9d60ddc0ae1fc9e51b5143e776b3a23c0af51673f86a65e7547", func := "lacquer/lacquerlaw13.MetaBuilds", spec := "metaBuilds", apart := false }
def MetaBuildsSaid : Prop := metaBuildsRow.holds Try.pinned (OpenSpec.ofChange metaBuildsSpec)

/-- ITS FALSE NEIGHBOUR: 'it returns false'. Refute it at one input. -/
def metaBuildsWrong : ChangeSpec := { name := "metaBuilds", fn := fun _ => fun
  | [d] => { results := [.lit (.bool false)], args := [d] }
  | _ => none }
def MetaBuildsWrongFalsely : Prop := metaBuildsRow.holds Try.pinned (OpenSpec.ofChange metaBuildsWrong)

/-- 'lacquerlaw13.MetaBack': WHATEVER THE INPUT: true; the input reads as it did. -/
def metaBackSpec : ChangeSpec := { name := "metaBack", fn := fun _ => fun
  | [d1, d2] => { results := [.lit (.bool true)], args := [d1, d2] }
  | _ => none }
def metaBackRow : OpenClaim := { program := "ytgihacaegmpggaa", sum := "13e9decbd447f9d60ddc0ae1fc9e51b5143e776b3a23c0af51673f86a65e7547", func := "lacquer/lacquerlaw13.MetaBack", spec := "metaBack", apart := false }
def MetaBackSaid : Prop := metaBackRow.holds Try.pinned (OpenSpec.ofChange metaBackSpec)

/-- ITS FALSE NEIGHBOUR: 'it returns false'. Refute it at one input. -/
def metaBackWrong : ChangeSpec := { name := "metaBack", fn := fun _ => fun
  | [d1, d2] => { results := [.lit (.bool false)], args := [d1, d2] }
  | _ => none }
def MetaBackWrongFalsely : Prop := metaBackRow.holds Try.pinned (OpenSpec.ofChange metaBackWrong)

/- THE SECOND FORM. 'bulk': how many values and letters a reading holds, each counted each time it is reached (what is shared counts as often as it is met; a slice's spare places count too). A statement '..UptoSaid' is the law's where the arguments, and the package variables that the reading takes, are together of bulk at most 1048576: NARROWER than '..Said'. Prove '..Said' where nothing that the law and all that it calls make is longer than what came in: it says more and counts as full. Else prove '..UptoSaid'. A law counts once. -/
mutual
def uptoBulk {H : Type} : DataW H → Nat
  | .lit (.string bytes) => bytes.length + 1
  | .lit _ => 1
  | .nil => 1
  | .ptr d => uptoBulk d + 1
  | .slice elems spare => uptoBulkAll elems + uptoBulkAll spare + 1
  | .agg parts => uptoBulkAll parts + 1
  | .iface _ d => uptoBulk d + 1
  | .map entries => uptoBulkEntries entries + 1
  | .held _ => 1
def uptoBulkAll {H : Type} : List (DataW H) → Nat
  | [] => 0
  | d :: r => uptoBulk d + uptoBulkAll r
def uptoBulkEntries {H : Type} : List (Lit × DataW H) → Nat
  | [] => 0
  | x :: r => uptoBulkEntry x + uptoBulkEntries r
def uptoBulkEntry {H : Type} : Lit × DataW H → Nat
  | (.string bytes, d) => bytes.length + uptoBulk d + 1
  | (_, d) => uptoBulk d + 1
 end
def uptoSmall : (H : Type) → List (DataW H) → Bool := fun _ ds => decide (uptoBulkAll ds ≤ 1048576)
def OpenSpec.upto (s : _root_.Go.ChangeSpec) : _root_.Go.OpenSpec := { _root_.Go.OpenSpec.ofChange s with cond := some uptoSmall }

/-- 'lacquerlaw13.MetaInfos', WHERE WHAT IT READS IS OF BULK AT MOST 1048576: true; the input reads as it did. -/
def metaInfosUptoRow : OpenClaim := { program := "ytgihacaegmpggaa", sum := "13e9decbd447f9d60ddc0ae1fc9e51b5143e776b3a23c0af51673f86a65e7547", func := "lacquer/lacquerlaw13.MetaInfos", spec := "metaInfos", apart := false, narrowed := true }
def MetaInfosUptoSaid : Prop := metaInfosUptoRow.holds Try.pinned (OpenSpec.upto metaInfosSpec)

/-- 'lacquerlaw13.MetaChecks', WHERE WHAT IT READS IS OF BULK AT MOST 1048576: true; the input reads as it did. -/
def metaChecksUptoRow : OpenClaim := { program := "ytgihacaegmpggaa", sum := "13e9decbd447f9d60ddc0ae1fc9e51b5143e776b3a23c0af51673f86a65e7547", func := "lacquer/lacquerlaw13.MetaChecks", spec := "metaChecks", apart := false, narrowed := true }
def MetaChecksUptoSaid : Prop := metaChecksUptoRow.holds Try.pinned (OpenSpec.upto metaChecksSpec)

/-- 'lacquerlaw13.MetaParses', WHERE WHAT IT READS IS OF BULK AT MOST 1048576: true; the input reads as it did. -/
def metaParsesUptoRow : OpenClaim := { program := "ytgihacaegmpggaa", sum := "13e9decbd447f9d60ddc0ae1fc9e51b5143e776b3a23c0af51673f86a65e7547", func := "lacquer/lacquerlaw13.MetaParses", spec := "metaParses", apart := false, narrowed := true }
def MetaParsesUptoSaid : Prop := metaParsesUptoRow.holds Try.pinned (OpenSpec.upto metaParsesSpec)

/-- 'lacquerlaw13.MetaBuilds', WHERE WHAT IT READS IS OF BULK AT MOST 1048576: true; the input reads as it did. -/
def metaBuildsUptoRow : OpenClaim := { program := "ytgihacaegmpggaa", sum := "13e9decbd447f9d60ddc0ae1fc9e51b5143e776b3a23c0af51673f86a65e7547", func := "lacquer/lacquerlaw13.MetaBuilds", spec := "metaBuilds", apart := false, narrowed := true }
def MetaBuildsUptoSaid : Prop := metaBuildsUptoRow.holds Try.pinned (OpenSpec.upto metaBuildsSpec)

/-- 'lacquerlaw13.MetaBack', WHERE WHAT IT READS IS OF BULK AT MOST 1048576: true; the input reads as it did. -/
def metaBackUptoRow : OpenClaim := { program := "ytgihacaegmpggaa", sum := "13e9decbd447f9d60ddc0ae1fc9e51b5143e776b3a23c0af51673f86a65e7547", func := "lacquer/lacquerlaw13.MetaBack", spec := "metaBack", apart := false, narrowed := true }
def MetaBackUptoSaid : Prop := metaBackUptoRow.holds Try.pinned (OpenSpec.upto metaBackSpec)

end Rows
end Go.Proofs.Ytgihacaegmpggaa
