/-
  No cell of these rows narrows 'for every input' (looked for: loops, veiled, ifaces, maps, wideKeys, modest, calm, conditions, laid).
  DERIVED. THE GIVEN ROWS OF THIS SEAT. 5 by the template 'for every input the law returns true; each argument reads behind the call as it read before'; 0 by the template 'total and deterministic' (their statements: YteljaikpechbmaaTotals.lean).
  GIVEN WITH THE SEED: the statements are not yours to turn. If you find one false, say at which input.
  Laid BY PROGRAM, IN A SANDBOX (cutbox-rows.mjs): the forced cells as the released guide's own fill.sh prints them over the translation 0e880da30a7f3f75… (all of the seat's roots in one cut). By AI agents, Wed Nov 11 2026. No macro, syntax, notation, axiom, sorry.
-/
import Derived.Test.YteljaikpechbmaaChecked
import GoSem.Claim
import GoSem.ClaimJoined
import GoSem.ClaimMapViews
import Derived.JoinedTies
import Derived.KernelRfl
namespace Go.Proofs.Yteljaikpechbmaa
/- THE CELL 'sum', in the pinned program and in every row, IS THE sha256 OF THE DUMP (.gsa) THAT YteljaikpechbmaaProg.lean LOADS. Nothing in Lean hashes anything: it is a label: what it is worth is what the hold of that sum in a sandbox is worth. -/
noncomputable def Try.pinned : Pinned := { name := "yteljaikpechbmaa", sum := "0e880da30a7f3f75bd8c14029ae81010912ef24b793f1e592d3d8c869c89fb78", checked := Try.checked }
namespace Rows
def none {H : Type} : Left H := { results := [], args := [] }

/-- 'lacquerlaw17.FilterPlays': WHATEVER THE INPUT: true; the input reads as it did. -/
def filterPlaysSpec : ChangeSpec := { name := "filterPlays", fn := fun _ => fun
  | [d1, d2, d3] => { results := [.lit (.bool true)], args := [d1, d2, d3] }
  | _ => none }
def filterPlaysRow : OpenClaim := { program := "yteljaikpechbmaa", sum := "0e880da30a7f3f75bd8c14029ae81010912ef24b793f1e592d3d8c869c89fb78", func := "lacquer/lacquerlaw17.FilterPlays", spec := "filterPlays", unfollowed := true, recurses := true, apart := false }
def FilterPlaysSaid : Prop := filterPlaysRow.holds Try.pinned (OpenSpec.ofChange filterPlaysSpec)

/-- ITS FALSE NEIGHBOUR: 'it returns false'. Refute it at one input. -/
def filterPlaysWrong : ChangeSpec := { name := "filterPlays", fn := fun _ => fun
  | [d1, d2, d3] => { results := [.lit (.bool false)], args := [d1, d2, d3] }
  | _ => none }
def FilterPlaysWrongFalsely : Prop := filterPlaysRow.holds Try.pinned (OpenSpec.ofChange filterPlaysWrong)

/-- 'lacquerlaw17.FilterBack': WHATEVER THE INPUT: true; the input reads as it did. -/
def filterBackSpec : ChangeSpec := { name := "filterBack", fn := fun _ => fun
  | [d1, d2] => { results := [.lit (.bool true)], args := [d1, d2] }
  | _ => none }
def filterBackRow : OpenClaim := { program := "yteljaikpechbmaa", sum := "0e880da30a7f3f75bd8c14029ae81010912ef24b793f1e592d3d8c869c89fb78", func := "lacquer/lacquerlaw17.FilterBack", spec := "filterBack", unfollowed := true, recurses := true, apart := false }
def FilterBackSaid : Prop := filterBackRow.holds Try.pinned (OpenSpec.ofChange filterBackSpec)

/-- ITS FALSE NEIGHBOUR: 'it returns false'. Refute it at one input. -/
def filterBackWrong : ChangeSpec := { name := "filterBack", fn := fun _ => fun
  | [d1, d2] => { results := [.lit (.bool false)], args := [d1, d2] }
  | _ => none }
def FilterBackWrongFalsely : Prop := filterBackRow.holds Try.pinned (OpenSpec.ofChange filterBackWrong)

/-- 'lacquerlaw17.FilterPieces': WHATEVER THE INPUT: true; the input reads as it did. -/
def filterPiecesSpec : ChangeSpec := { name := "filterPieces", fn := fun _ => fun
  | [d1, d2, d3] => { results := [.lit (.bool true)], args := [d1, d2, d3] }
  | _ => none }
def filterPiecesRow : OpenClaim := { program := "yteljaikpechbmaa", sum := "0e880da30a7f3f75bd8c14029ae81010912ef24b793f1e592d3d8c869c89fb78", func := "lacquer/lacquerlaw17.FilterPieces", spec := "filterPieces", unfollowed := true, recurses := true, apart := false }
def FilterPiecesSaid : Prop := filterPiecesRow.holds Try.pinned (OpenSpec.ofChange filterPiecesSpec)

/-- ITS FALSE NEIGHBOUR: 'it returns false'. Refute it at one input. -/
def filterPiecesWrong : ChangeSpec := { name := "filterPieces", fn := fun _ => fun
  | [d1, d2, d3] => { results := [.lit (.bool false)], args := [d1, d2, d3] }
  | _ => none }
def FilterPiecesWrongFalsely : Prop := filterPiecesRow.holds Try.pinned (OpenSpec.ofChange filterPiecesWrong)

/-- 'lacquerlaw17.FilterLists': WHATEVER THE INPUT: true; the input reads as it did. -/
def filterListsSpec : ChangeSpec := { name := "filterLists", fn := fun _ => fun
  | [d1, d2, d3] => { results := [.lit (.bool true)], args := [d1, d2, d3] }
  | _ => none }
def filterListsRow : OpenClaim := { program := "yteljaikpechbmaa", sum := "0e880da30a7f3f75bd8c14029ae81010912ef24b793f1e592d3d8c869c89fb78", func := "lacquer/lacquerlaw17.FilterLists", spec := "filterLists", unfollowed := true, recurses := true, apart := false }
def FilterListsSaid : Prop := filterListsRow.holds Try.pinned (OpenSpec.ofChange filterListsSpec)

/-- ITS FALSE NEIGHBOUR: 'it returns false'. Refute it at one input. -/
def filterListsWrong : ChangeSpec := { name := "filterLists", fn := fun _ => fun
  | [d1, d2, d3] => { results := [.lit (.bool false)], args := [d1, d2, d3] }
  | _ => none }
def FilterListsWrongFalsely : Prop := filterListsRow.holds Try.pinned (OpenSpec.ofChange filterListsWrong)

/-- 'lacquerlaw17.FilterMid': WHATEVER THE INPUT: true; the input reads as it did. -/
def filterMidSpec : ChangeSpec := { name := "filterMid", fn := fun _ => fun
  | [d1, d2] => { results := [.lit (.bool true)], args := [d1, d2] }
  | _ => none }
def filterMidRow : OpenClaim := { program := "yteljaikpechbmaa", sum := "0e880da30a7f3f75bd8c14029ae81010912ef24b793f1e592d3d8c869c89fb78", func := "lacquer/lacquerlaw17.FilterMid", spec := "filterMid", unfollowed := true, recurses := true, apart := false }
def FilterMidSaid : Prop := filterMidRow.holds Try.pinned (OpenSpec.ofChange filterMidSpec)

/-- ITS FALSE NEIGHBOUR: 'it returns false'. Refute it at one input. -/
def filterMidWrong : ChangeSpec := { name := "filterMid", fn := fun _ => fun
  | [d1, d2] => { results := [.lit (.bool false)], args := [d1, d2] }
  | _ => none }
def FilterMidWrongFalsely : Prop := filterMidRow.holds Try.pinned (OpenSpec.ofChange filterMidWrong)

/- THE SECOND FORM. 'bulk': how many values and letters a reading holds, each counted each time it is reached (what is shared counts as often as it is met; a slice's spare places count too). A statement '..UptoSaid' is the law's where the arguments, and the package variables that the reading takes, are together of bulk at most 1048576: NARROWER than '..Said'. Prove '..Said' where nothing that the law and all that it calls make is longer than what came in: it says more and counts as full. Else prove '..UptoSaid'. A law counts once. -/
mutual
def uptoBulk {H : Type} : DataW H → Nat
  | .lit (.string bytes) => bytes.length + 1
  | .lit _ => 1
  | .nil => 1
  | .ptr d => uptoBulk d + 1
  | .slice elems spare => uptoBulkAll elems + uptoBulkAll spare + 1
  | .agg parts => uptoBulkAll parts + 1
  | .iface _ d => uptoBulk d + 1
  | .map entries => uptoBulkEntries entries + 1
  | .held _ => 1
def uptoBulkAll {H : Type} : List (DataW H) → Nat
  | [] => 0
  | d :: r => uptoBulk d + uptoBulkAll r
def uptoBulkEntries {H : Type} : List (Lit × DataW H) → Nat
  | [] => 0
  | x :: r => uptoBulkEntry x + uptoBulkEntries r
def uptoBulkEntry {H : Type} : Lit × DataW H → Nat
  | (.string bytes, d) => bytes.length + uptoBulk d + 1
  | (_, d) => uptoBulk d + 1
 end
def uptoSmall : (H : Type) → List (DataW H) → Bool := fun _ ds => decide (uptoBulkAll ds ≤ 1048576)
def OpenSpec.upto (s : _root_.Go.ChangeSpec) : _root_.Go.OpenSpec := { _root_.Go.OpenSpec.ofChange s with cond := some uptoSmall }

/-- 'lacquerlaw17.FilterPlays', WHERE WHAT IT READS IS OF BULK AT MOST 1048576: true; the input reads as it did. -/
def filterPlaysUptoRow : OpenClaim := { program := "yteljaikpechbmaa", sum := "0e880da30a7f3f75bd8c14029ae81010912ef24b793f1e592d3d8c869c89fb78", func := "lacquer/lacquerlaw17.FilterPlays", spec := "filterPlays", unfollowed := true, recurses := true, apart := false, narrowed := true }
def FilterPlaysUptoSaid : Prop := filterPlaysUptoRow.holds Try.pinned (OpenSpec.upto filterPlaysSpec)

/-- 'lacquerlaw17.FilterBack', WHERE WHAT IT READS IS OF BULK AT MOST 1048576: true; the input reads as it did. -/
def filterBackUptoRow : OpenClaim := { program := "yteljaikpechbmaa", sum := "0e880da30a7f3f75bd8c14029ae81010912ef24b793f1e592d3d8c869c89fb78", func := "lacquer/lacquerlaw17.FilterBack", spec := "filterBack", unfollowed := true, recurses := true, apart := false, narrowed := true }
def FilterBackUptoSaid : Prop := filterBackUptoRow.holds Try.pinned (OpenSpec.upto filterBackSpec)

/-- 'lacquerlaw17.FilterPieces', WHERE WHAT IT READS IS OF BULK AT MOST 1048576: true; the input reads as it did. -/
def filterPiecesUptoRow : OpenClaim := { program := "yteljaikpechbmaa", sum := "0e880da30a7f3f75bd8c14029ae81010912ef24b793f1e592d3d8c869c89fb78", func := "lacquer/lacquerlaw17.FilterPieces", spec := "filterPieces", unfollowed := true, recurses := true, apart := false, narrowed := true }
def FilterPiecesUptoSaid : Prop := filterPiecesUptoRow.holds Try.pinned (OpenSpec.upto filterPiecesSpec)

/-- 'lacquerlaw17.FilterLists', WHERE WHAT IT READS IS OF BULK AT MOST 1048576: true; the input reads as it did. -/
def filterListsUptoRow : OpenClaim := { program := "yteljaikpechbmaa", sum := "0e880da30a7f3f75bd8c14029ae81010912ef24b793f1e592d3d8c869c89fb78", func := "lacquer/lacquerlaw17.FilterLists", spec := "filterLists", unfollowed := true, recurses := true, apart := false, narrowed := true }
def FilterListsUptoSaid : Prop := filterListsUptoRow.holds Try.pinned (OpenSpec.upto filterListsSpec)

/-- 'lacquerlaw17.FilterMid', WHERE WHAT IT READS IS OF BULK AT MOST 1048576: true; the input reads as it did. -/
def filterMidUptoRow : OpenClaim := { program := "yteljaikpechbmaa", sum := "0e880da30a7f3f75bd8c14029ae81010912ef24b793f1e592d3d8c869c89fb78", func := "lacquer/lacquerlaw17.FilterMid", spec := "filterMid", unfollowed := true, recurses := true, apart := false, narrowed := true }
def FilterMidUptoSaid : Prop := filterMidUptoRow.holds Try.pinned (OpenSpec.upto filterMidSpec)

end Rows
end Go.Proofs.Yteljaikpechbmaa
