/-
  No cell of these rows narrows 'for every input' (looked for: loops, veiled, ifaces, maps, wideKeys, modest, calm, conditions, laid).
  DERIVED. THE GIVEN ROWS OF THIS SEAT. 7 by the template 'for every input the law returns true; each argument reads behind the call as it read before'; 0 by the template 'total and deterministic' (their statements: YtbbedocehejfgaaTotals.lean).
  GIVEN WITH THE SEED: the statements are not yours to turn. If you find one false, say at which input.
  Laid BY PROGRAM, IN A SANDBOX (cutbox-rows.mjs): the forced cells as the released guide's own fill.sh prints them over the translation eb3f7e7fdc7ecb75… (all of the seat's roots in one cut). By AI agents, Wed Nov 11 2026. No macro, syntax, notation, axiom, sorry.
-/
import Derived.Test.YtbbedocehejfgaaChecked
import GoSem.Claim
import GoSem.ClaimJoined
import GoSem.ClaimMapViews
import Derived.JoinedTies
import Derived.KernelRfl
namespace Go.Proofs.Ytbbedocehejfgaa
/- THE CELL 'sum', in the pinned program and in every row, IS THE sha256 OF THE DUMP (.gsa) THAT YtbbedocehejfgaaProg.lean LOADS. Nothing in Lean hashes anything: it is a label: what it is worth is what the hold of that sum in a sandbox is worth. -/
noncomputable def Try.pinned : Pinned := { name := "ytbbedocehejfgaa", sum := "eb3f7e7fdc7ecb75662c65d9960757210e994346075f0af9a791734a96530959", checked := Try.checked }
namespace Rows
def none {H : Type} : Left H := { results := [], args := [] }

/-- 'lacquerlaw09.PredictFixed': WHATEVER THE INPUT: true; the input reads as it did. -/
def predictFixedSpec : ChangeSpec := { name := "predictFixed", fn := fun _ => fun
  | [d1, d2, d3] => { results := [.lit (.bool true)], args := [d1, d2, d3] }
  | _ => none }
def predictFixedRow : OpenClaim := { program := "ytbbedocehejfgaa", sum := "eb3f7e7fdc7ecb75662c65d9960757210e994346075f0af9a791734a96530959", func := "lacquer/lacquerlaw09.PredictFixed", spec := "predictFixed", unfollowed := true, recurses := true, apart := false }
def PredictFixedSaid : Prop := predictFixedRow.holds Try.pinned (OpenSpec.ofChange predictFixedSpec)

/-- ITS FALSE NEIGHBOUR: 'it returns false'. Refute it at one input. -/
def predictFixedWrong : ChangeSpec := { name := "predictFixed", fn := fun _ => fun
  | [d1, d2, d3] => { results := [.lit (.bool false)], args := [d1, d2, d3] }
  | _ => none }
def PredictFixedWrongFalsely : Prop := predictFixedRow.holds Try.pinned (OpenSpec.ofChange predictFixedWrong)

/-- 'lacquerlaw09.PredictLines': WHATEVER THE INPUT: true; the input reads as it did. -/
def predictLinesSpec : ChangeSpec := { name := "predictLines", fn := fun _ => fun
  | [d1, d2, d3] => { results := [.lit (.bool true)], args := [d1, d2, d3] }
  | _ => none }
def predictLinesRow : OpenClaim := { program := "ytbbedocehejfgaa", sum := "eb3f7e7fdc7ecb75662c65d9960757210e994346075f0af9a791734a96530959", func := "lacquer/lacquerlaw09.PredictLines", spec := "predictLines", unfollowed := true, recurses := true, apart := false }
def PredictLinesSaid : Prop := predictLinesRow.holds Try.pinned (OpenSpec.ofChange predictLinesSpec)

/-- ITS FALSE NEIGHBOUR: 'it returns false'. Refute it at one input. -/
def predictLinesWrong : ChangeSpec := { name := "predictLines", fn := fun _ => fun
  | [d1, d2, d3] => { results := [.lit (.bool false)], args := [d1, d2, d3] }
  | _ => none }
def PredictLinesWrongFalsely : Prop := predictLinesRow.holds Try.pinned (OpenSpec.ofChange predictLinesWrong)

/-- 'lacquerlaw09.PredictLpc': WHATEVER THE INPUT: true; the input reads as it did. -/
def predictLpcSpec : ChangeSpec := { name := "predictLpc", fn := fun _ => fun
  | [d1, d2, d3] => { results := [.lit (.bool true)], args := [d1, d2, d3] }
  | _ => none }
def predictLpcRow : OpenClaim := { program := "ytbbedocehejfgaa", sum := "eb3f7e7fdc7ecb75662c65d9960757210e994346075f0af9a791734a96530959", func := "lacquer/lacquerlaw09.PredictLpc", spec := "predictLpc", unfollowed := true, recurses := true, apart := false }
def PredictLpcSaid : Prop := predictLpcRow.holds Try.pinned (OpenSpec.ofChange predictLpcSpec)

/-- ITS FALSE NEIGHBOUR: 'it returns false'. Refute it at one input. -/
def predictLpcWrong : ChangeSpec := { name := "predictLpc", fn := fun _ => fun
  | [d1, d2, d3] => { results := [.lit (.bool false)], args := [d1, d2, d3] }
  | _ => none }
def PredictLpcWrongFalsely : Prop := predictLpcRow.holds Try.pinned (OpenSpec.ofChange predictLpcWrong)

/-- 'lacquerlaw09.PredictStereo': WHATEVER THE INPUT: true; the input reads as it did. -/
def predictStereoSpec : ChangeSpec := { name := "predictStereo", fn := fun _ => fun
  | [d1, d2, d3] => { results := [.lit (.bool true)], args := [d1, d2, d3] }
  | _ => none }
def predictStereoRow : OpenClaim := { program := "ytbbedocehejfgaa", sum := "eb3f7e7fdc7ecb75662c65d9960757210e994346075f0af9a791734a96530959", func := "lacquer/lacquerlaw09.PredictStereo", spec := "predictStereo", unfollowed := true, recurses := true, apart := false }
def PredictStereoSaid : Prop := predictStereoRow.holds Try.pinned (OpenSpec.ofChange predictStereoSpec)

/-- ITS FALSE NEIGHBOUR: 'it returns false'. Refute it at one input. -/
def predictStereoWrong : ChangeSpec := { name := "predictStereo", fn := fun _ => fun
  | [d1, d2, d3] => { results := [.lit (.bool false)], args := [d1, d2, d3] }
  | _ => none }
def PredictStereoWrongFalsely : Prop := predictStereoRow.holds Try.pinned (OpenSpec.ofChange predictStereoWrong)

/-- 'lacquerlaw09.PredictModes': WHATEVER THE INPUT: true; the input reads as it did. -/
def predictModesSpec : ChangeSpec := { name := "predictModes", fn := fun _ => fun
  | [d1, d2, d3] => { results := [.lit (.bool true)], args := [d1, d2, d3] }
  | _ => none }
def predictModesRow : OpenClaim := { program := "ytbbedocehejfgaa", sum := "eb3f7e7fdc7ecb75662c65d9960757210e994346075f0af9a791734a96530959", func := "lacquer/lacquerlaw09.PredictModes", spec := "predictModes", unfollowed := true, recurses := true, apart := false }
def PredictModesSaid : Prop := predictModesRow.holds Try.pinned (OpenSpec.ofChange predictModesSpec)

/-- ITS FALSE NEIGHBOUR: 'it returns false'. Refute it at one input. -/
def predictModesWrong : ChangeSpec := { name := "predictModes", fn := fun _ => fun
  | [d1, d2, d3] => { results := [.lit (.bool false)], args := [d1, d2, d3] }
  | _ => none }
def PredictModesWrongFalsely : Prop := predictModesRow.holds Try.pinned (OpenSpec.ofChange predictModesWrong)

/-- 'lacquerlaw09.PredictShifts': WHATEVER THE INPUT: true; the input reads as it did. -/
def predictShiftsSpec : ChangeSpec := { name := "predictShifts", fn := fun _ => fun
  | [d1, d2] => { results := [.lit (.bool true)], args := [d1, d2] }
  | _ => none }
def predictShiftsRow : OpenClaim := { program := "ytbbedocehejfgaa", sum := "eb3f7e7fdc7ecb75662c65d9960757210e994346075f0af9a791734a96530959", func := "lacquer/lacquerlaw09.PredictShifts", spec := "predictShifts", unfollowed := true, recurses := true, apart := false }
def PredictShiftsSaid : Prop := predictShiftsRow.holds Try.pinned (OpenSpec.ofChange predictShiftsSpec)

/-- ITS FALSE NEIGHBOUR: 'it returns false'. Refute it at one input. -/
def predictShiftsWrong : ChangeSpec := { name := "predictShifts", fn := fun _ => fun
  | [d1, d2] => { results := [.lit (.bool false)], args := [d1, d2] }
  | _ => none }
def PredictShiftsWrongFalsely : Prop := predictShiftsRow.holds Try.pinned (OpenSpec.ofChange predictShiftsWrong)

/-- 'lacquerlaw09.PredictBack': WHATEVER THE INPUT: true; the input reads as it did. -/
def predictBackSpec : ChangeSpec := { name := "predictBack", fn := fun _ => fun
  | [d1, d2, d3] => { results := [.lit (.bool true)], args := [d1, d2, d3] }
  | _ => none }
def predictBackRow : OpenClaim := { program := "ytbbedocehejfgaa", sum := "eb3f7e7fdc7ecb75662c65d9960757210e994346075f0af9a791734a96530959", func := "lacquer/lacquerlaw09.PredictBack", spec := "predictBack", unfollowed := true, recurses := true, apart := false }
def PredictBackSaid : Prop := predictBackRow.holds Try.pinned (OpenSpec.ofChange predictBackSpec)

/-- ITS FALSE NEIGHBOUR: 'it returns false'. Refute it at one input. -/
def predictBackWrong : ChangeSpec := { name := "predictBack", fn := fun _ => fun
  | [d1, d2, d3] => { results := [.lit (.bool false)], args := [d1, d2, d3] }
  | _ => none }
def PredictBackWrongFalsely : Prop := predictBackRow.holds Try.pinned (OpenSpec.ofChange predictBackWrong)

/- THE SECOND FORM. 'bulk': how many values and letters a reading holds, each counted each time it is reached (what is shared counts as often as it is met; a slice's spare places count too). A statement '..UptoSaid' is the law's where the arguments, and the package variables that the reading takes, are together of bulk at most 1048576: NARROWER than '..Said'. Prove '..Said' where nothing that the law and all that it calls make is longer than what came in: it says more and counts as full. Else prove '..UptoSaid'. A law counts once. -/
mutual
def uptoBulk {H : Type} : DataW H → Nat
  | .lit (.string bytes) => bytes.length + 1
  | .lit _ => 1
  | .nil => 1
  | .ptr d => uptoBulk d + 1
  | .slice elems spare => uptoBulkAll elems + uptoBulkAll spare + 1
  | .agg parts => uptoBulkAll parts + 1
  | .iface _ d => uptoBulk d + 1
  | .map entries => uptoBulkEntries entries + 1
  | .held _ => 1
def uptoBulkAll {H : Type} : List (DataW H) → Nat
  | [] => 0
  | d :: r => uptoBulk d + uptoBulkAll r
def uptoBulkEntries {H : Type} : List (Lit × DataW H) → Nat
  | [] => 0
  | x :: r => uptoBulkEntry x + uptoBulkEntries r
def uptoBulkEntry {H : Type} : Lit × DataW H → Nat
  | (.string bytes, d) => bytes.length + uptoBulk d + 1
  | (_, d) => uptoBulk d + 1
 end
def uptoSmall : (H : Type) → List (DataW H) → Bool := fun _ ds => decide (uptoBulkAll ds ≤ 1048576)
def OpenSpec.upto (s : _root_.Go.ChangeSpec) : _root_.Go.OpenSpec := { _root_.Go.OpenSpec.ofChange s with cond := some uptoSmall }

/-- 'lacquerlaw09.PredictFixed', WHERE WHAT IT READS IS OF BULK AT MOST 1048576: true; the input reads as it did. -/
def predictFixedUptoRow : OpenClaim := { program := "ytbbedocehejfgaa", sum := "eb3f7e7fdc7ecb75662c65d9960757210e994346075f0af9a791734a96530959", func := "lacquer/lacquerlaw09.PredictFixed", spec := "predictFixed", unfollowed := true, recurses := true, apart := false, narrowed := true }
def PredictFixedUptoSaid : Prop := predictFixedUptoRow.holds Try.pinned (OpenSpec.upto predictFixedSpec)

/-- 'lacquerlaw09.PredictLines', WHERE WHAT IT READS IS OF BULK AT MOST 1048576: true; the input reads as it did. -/
def predictLinesUptoRow : OpenClaim := { program := "ytbbedocehejfgaa", sum := "eb3f7e7fdc7ecb75662c65d9960757210e994346075f0af9a791734a96530959", func := "lacquer/lacquerlaw09.PredictLines", spec := "predictLines", unfollowed := true, recurses := true, apart := false, narrowed := true }
def PredictLinesUptoSaid : Prop := predictLinesUptoRow.holds Try.pinned (OpenSpec.upto predictLinesSpec)

/-- 'lacquerlaw09.PredictLpc', WHERE WHAT IT READS IS OF BULK AT MOST 1048576: true; the input reads as it did. -/
def predictLpcUptoRow : OpenClaim := { program := "ytbbedocehejfgaa", sum := "eb3f7e7fdc7ecb75662c65d9960757210e994346075f0af9a791734a96530959", func := "lacquer/lacquerlaw09.PredictLpc", spec := "predictLpc", unfollowed := true, recurses := true, apart := false, narrowed := true }
def PredictLpcUptoSaid : Prop := predictLpcUptoRow.holds Try.pinned (OpenSpec.upto predictLpcSpec)

/-- 'lacquerlaw09.PredictStereo', WHERE WHAT IT READS IS OF BULK AT MOST 1048576: true; the input reads as it did. -/
def predictStereoUptoRow : OpenClaim := { program := "ytbbedocehejfgaa", sum := "eb3f7e7fdc7ecb75662c65d9960757210e994346075f0af9a791734a96530959", func := "lacquer/lacquerlaw09.PredictStereo", spec := "predictStereo", unfollowed := true, recurses := true, apart := false, narrowed := true }
def PredictStereoUptoSaid : Prop := predictStereoUptoRow.holds Try.pinned (OpenSpec.upto predictStereoSpec)

/-- 'lacquerlaw09.PredictModes', WHERE WHAT IT READS IS OF BULK AT MOST 1048576: true; the input reads as it did. -/
def predictModesUptoRow : OpenClaim := { program := "ytbbedocehejfgaa", sum := "eb3f7e7fdc7ecb75662c65d9960757210e994346075f0af9a791734a96530959", func := "lacquer/lacquerlaw09.PredictModes", spec := "predictModes", unfollowed := true, recurses := true, apart := false, narrowed := true }
def PredictModesUptoSaid : Prop := predictModesUptoRow.holds Try.pinned (OpenSpec.upto predictModesSpec)

/-- 'lacquerlaw09.PredictShifts', WHERE WHAT IT READS IS OF BULK AT MOST 1048576: true; the input reads as it did. -/
def predictShiftsUptoRow : OpenClaim := { program := "ytbbedocehejfgaa", sum := "eb3f7e7fdc7ecb75662c65d9960757210e994346075f0af9a791734a96530959", func := "lacquer/lacquerlaw09.PredictShifts", spec := "predictShifts", unfollowed := true, recurses := true, apart := false, narrowed := true }
def PredictShiftsUptoSaid : Prop := predictShiftsUptoRow.holds Try.pinned (OpenSpec.upto predictShiftsSpec)

/-- 'lacquerlaw09.PredictBack', WHERE WHAT IT READS IS OF BULK AT MOST 1048576: true; the input reads as it did. -/
def predictBackUptoRow : OpenClaim := { program := "ytbbedocehejfgaa", sum := "eb3f7e7fdc7ecb75662c65d9960757210e994346075f0af9a791734a96530959", func := "lacquer/lacquerlaw09.PredictBack", spec := "predictBack", unfollowed := true, recurses := true, apart := false, narrowed := true }
def PredictBackUptoSaid : Prop := predictBackUptoRow.holds Try.pinned (OpenSpec.upto predictBackSpec)

end Rows
end Go.Proofs.Ytbbedocehejfgaa
