/-
  No cell of these rows narrows 'for every input' (looked for: loops, veiled, ifaces, maps, wideKeys, modest, calm, conditions, laid).
  DERIVED. THE GIVEN ROWS OF THIS SEAT. 7 by the template 'for every input the law returns true; each argument reads behind the call as it read before'; 0 by the template 'total and deterministic' (their statements: YtgfbejlggakkhaaTotals.lean).
  GIVEN WITH THE SEED: the statements are not yours to turn. If you find one false, say at which input.
  Laid BY PROGRAM, IN A SANDBOX (cutbox-rows.mjs): the forced cells as the released guide's own fill.sh prints them over the translation 0d3f404b98dddfa1… (all of the seat's roots in one cut). By AI agents, Wed Nov 11 2026. No macro, syntax, notation, axiom, sorry.
-/
import Derived.Test.YtgfbejlggakkhaaChecked
import GoSem.Claim
import GoSem.ClaimJoined
import GoSem.ClaimMapViews
import Derived.JoinedTies
import Derived.KernelRfl
namespace Go.Proofs.Ytgfbejlggakkhaa
/- THE CELL 'sum', in the pinned program and in every row, IS THE sha256 OF THE DUMP (.gsa) THAT YtgfbejlggakkhaaProg.lean LOADS. Nothing in Lean hashes anything: it is a label: what it is worth is what the hold of that sum in a sandbox is worth. -/
noncomputable def Try.pinned : Pinned := { name := "ytgfbejlggakkhaa", sum := "0d3f404b98dddfa19eea52073ac4d21f259c0cffadcb05d3512dbc461ea1ccca", checked := Try.checked }
namespace Rows
def none {H : Type} : Left H := { results := [], args := [] }

/-- 'foghornlaw05.SliceAxes': WHATEVER THE INPUT: true; the input reads as it did. -/
def sliceAxesSpec : ChangeSpec := { name := "sliceAxes", fn := fun _ => fun
  | [d1, d2, d3, d4, d5] => { results := [.lit (.bool true)], args := [d1, d2, d3, d4, d5] }
  | _ => none }
def sliceAxesRow : OpenClaim := { program := "ytgfbejlggakkhaa", sum := "0d3f404b98dddfa19eea52073ac4d21f259c0cffadcb05d3512dbc461ea1ccca", func := "foghorn/foghornlaw05.SliceAxes", spec := "sliceAxes", inPlace := ["math.Float64frombits", "math.archMin", "math.Float64bits", "math.archMax", "math.archCeil", "math.archFloor", "math.archTrunc"], unfollowed := true, recurses := true, apart := false }
def SliceAxesSaid : Prop := sliceAxesRow.holds Try.pinned (OpenSpec.ofChange sliceAxesSpec)

/-- ITS FALSE NEIGHBOUR: 'it returns false'. Refute it at one input. -/
def sliceAxesWrong : ChangeSpec := { name := "sliceAxes", fn := fun _ => fun
  | [d1, d2, d3, d4, d5] => { results := [.lit (.bool false)], args := [d1, d2, d3, d4, d5] }
  | _ => none }
def SliceAxesWrongFalsely : Prop := sliceAxesRow.holds Try.pinned (OpenSpec.ofChange sliceAxesWrong)

/-- 'foghornlaw05.SliceDecides': WHATEVER THE INPUT: true; the input reads as it did. -/
def sliceDecidesSpec : ChangeSpec := { name := "sliceDecides", fn := fun _ => fun
  | [d1, d2, d3] => { results := [.lit (.bool true)], args := [d1, d2, d3] }
  | _ => none }
def sliceDecidesRow : OpenClaim := { program := "ytgfbejlggakkhaa", sum := "0d3f404b98dddfa19eea52073ac4d21f259c0cffadcb05d3512dbc461ea1ccca", func := "foghorn/foghornlaw05.SliceDecides", spec := "sliceDecides", inPlace := ["math.Float64frombits", "math.Float64bits", "math.archMin", "math.archMax", "math.archCeil", "math.archFloor", "math.archTrunc"], unfollowed := true, recurses := true, apart := false }
def SliceDecidesSaid : Prop := sliceDecidesRow.holds Try.pinned (OpenSpec.ofChange sliceDecidesSpec)

/-- ITS FALSE NEIGHBOUR: 'it returns false'. Refute it at one input. -/
def sliceDecidesWrong : ChangeSpec := { name := "sliceDecides", fn := fun _ => fun
  | [d1, d2, d3] => { results := [.lit (.bool false)], args := [d1, d2, d3] }
  | _ => none }
def SliceDecidesWrongFalsely : Prop := sliceDecidesRow.holds Try.pinned (OpenSpec.ofChange sliceDecidesWrong)

/-- 'foghornlaw05.SliceNear': WHATEVER THE INPUT: true; the input reads as it did. -/
def sliceNearSpec : ChangeSpec := { name := "sliceNear", fn := fun _ => fun
  | [d1, d2, d3, d4] => { results := [.lit (.bool true)], args := [d1, d2, d3, d4] }
  | _ => none }
def sliceNearRow : OpenClaim := { program := "ytgfbejlggakkhaa", sum := "0d3f404b98dddfa19eea52073ac4d21f259c0cffadcb05d3512dbc461ea1ccca", func := "foghorn/foghornlaw05.SliceNear", spec := "sliceNear", inPlace := ["math.Float64bits", "math.Float64frombits", "math.archMin", "math.archMax", "math.archCeil", "math.archFloor", "math.archTrunc"], unfollowed := true, recurses := true, apart := false }
def SliceNearSaid : Prop := sliceNearRow.holds Try.pinned (OpenSpec.ofChange sliceNearSpec)

/-- ITS FALSE NEIGHBOUR: 'it returns false'. Refute it at one input. -/
def sliceNearWrong : ChangeSpec := { name := "sliceNear", fn := fun _ => fun
  | [d1, d2, d3, d4] => { results := [.lit (.bool false)], args := [d1, d2, d3, d4] }
  | _ => none }
def SliceNearWrongFalsely : Prop := sliceNearRow.holds Try.pinned (OpenSpec.ofChange sliceNearWrong)

/-- 'foghornlaw05.SliceLeast': WHATEVER THE INPUT: true; the input reads as it did. -/
def sliceLeastSpec : ChangeSpec := { name := "sliceLeast", fn := fun _ => fun
  | [d1, d2, d3, d4] => { results := [.lit (.bool true)], args := [d1, d2, d3, d4] }
  | _ => none }
def sliceLeastRow : OpenClaim := { program := "ytgfbejlggakkhaa", sum := "0d3f404b98dddfa19eea52073ac4d21f259c0cffadcb05d3512dbc461ea1ccca", func := "foghorn/foghornlaw05.SliceLeast", spec := "sliceLeast", inPlace := ["math.Float64bits", "math.Float64frombits", "math.archMin", "math.archMax", "math.archCeil", "math.archFloor", "math.archTrunc"], unfollowed := true, recurses := true, apart := false }
def SliceLeastSaid : Prop := sliceLeastRow.holds Try.pinned (OpenSpec.ofChange sliceLeastSpec)

/-- ITS FALSE NEIGHBOUR: 'it returns false'. Refute it at one input. -/
def sliceLeastWrong : ChangeSpec := { name := "sliceLeast", fn := fun _ => fun
  | [d1, d2, d3, d4] => { results := [.lit (.bool false)], args := [d1, d2, d3, d4] }
  | _ => none }
def SliceLeastWrongFalsely : Prop := sliceLeastRow.holds Try.pinned (OpenSpec.ofChange sliceLeastWrong)

/-- 'foghornlaw05.SliceTurned': WHATEVER THE INPUT: true; the input reads as it did. -/
def sliceTurnedSpec : ChangeSpec := { name := "sliceTurned", fn := fun _ => fun
  | [d1, d2, d3] => { results := [.lit (.bool true)], args := [d1, d2, d3] }
  | _ => none }
def sliceTurnedRow : OpenClaim := { program := "ytgfbejlggakkhaa", sum := "0d3f404b98dddfa19eea52073ac4d21f259c0cffadcb05d3512dbc461ea1ccca", func := "foghorn/foghornlaw05.SliceTurned", spec := "sliceTurned", inPlace := ["math.Float64bits", "math.Float64frombits", "math.archMin", "math.archMax", "math.archCeil", "math.archFloor", "math.archTrunc"], unfollowed := true, recurses := true, apart := false }
def SliceTurnedSaid : Prop := sliceTurnedRow.holds Try.pinned (OpenSpec.ofChange sliceTurnedSpec)

/-- ITS FALSE NEIGHBOUR: 'it returns false'. Refute it at one input. -/
def sliceTurnedWrong : ChangeSpec := { name := "sliceTurned", fn := fun _ => fun
  | [d1, d2, d3] => { results := [.lit (.bool false)], args := [d1, d2, d3] }
  | _ => none }
def SliceTurnedWrongFalsely : Prop := sliceTurnedRow.holds Try.pinned (OpenSpec.ofChange sliceTurnedWrong)

/-- 'foghornlaw05.SliceRows': WHATEVER THE INPUT: true; the input reads as it did. -/
def sliceRowsSpec : ChangeSpec := { name := "sliceRows", fn := fun _ => fun
  | [d1, d2] => { results := [.lit (.bool true)], args := [d1, d2] }
  | _ => none }
def sliceRowsRow : OpenClaim := { program := "ytgfbejlggakkhaa", sum := "0d3f404b98dddfa19eea52073ac4d21f259c0cffadcb05d3512dbc461ea1ccca", func := "foghorn/foghornlaw05.SliceRows", spec := "sliceRows", inPlace := ["math.archFloor", "math.Float64bits", "math.Float64frombits", "math.archTrunc", "math.archMin", "math.archMax", "math.archCeil"], unfollowed := true, recurses := true, apart := false }
def SliceRowsSaid : Prop := sliceRowsRow.holds Try.pinned (OpenSpec.ofChange sliceRowsSpec)

/-- ITS FALSE NEIGHBOUR: 'it returns false'. Refute it at one input. -/
def sliceRowsWrong : ChangeSpec := { name := "sliceRows", fn := fun _ => fun
  | [d1, d2] => { results := [.lit (.bool false)], args := [d1, d2] }
  | _ => none }
def SliceRowsWrongFalsely : Prop := sliceRowsRow.holds Try.pinned (OpenSpec.ofChange sliceRowsWrong)

/-- 'foghornlaw05.SliceNames': WHATEVER THE INPUT: true; the input reads as it did. -/
def sliceNamesSpec : ChangeSpec := { name := "sliceNames", fn := fun _ => fun
  | [] => { results := [.lit (.bool true)], args := [] }
  | _ => none }
def sliceNamesRow : OpenClaim := { program := "ytgfbejlggakkhaa", sum := "0d3f404b98dddfa19eea52073ac4d21f259c0cffadcb05d3512dbc461ea1ccca", func := "foghorn/foghornlaw05.SliceNames", spec := "sliceNames", inPlace := ["math.archMin", "math.Float64bits", "math.Float64frombits", "math.archMax", "math.archCeil", "math.archFloor", "math.archTrunc"], unfollowed := true, recurses := true, apart := false }
def SliceNamesSaid : Prop := sliceNamesRow.holds Try.pinned (OpenSpec.ofChange sliceNamesSpec)

/-- ITS FALSE NEIGHBOUR: 'it returns false'. Refute it at one input. -/
def sliceNamesWrong : ChangeSpec := { name := "sliceNames", fn := fun _ => fun
  | [] => { results := [.lit (.bool false)], args := [] }
  | _ => none }
def SliceNamesWrongFalsely : Prop := sliceNamesRow.holds Try.pinned (OpenSpec.ofChange sliceNamesWrong)

/- THE SECOND FORM. 'bulk': how many values and letters a reading holds, each counted each time it is reached (what is shared counts as often as it is met; a slice's spare places count too). A statement '..UptoSaid' is the law's where the arguments, and the package variables that the reading takes, are together of bulk at most 1048576: NARROWER than '..Said'. Prove '..Said' where nothing that the law and all that it calls make is longer than what came in: it says more and counts as full. Else prove '..UptoSaid'. A law counts once. -/
mutual
def uptoBulk {H : Type} : DataW H → Nat
  | .lit (.string bytes) => bytes.length + 1
  | .lit _ => 1
  | .nil => 1
  | .ptr d => uptoBulk d + 1
  | .slice elems spare => uptoBulkAll elems + uptoBulkAll spare + 1
  | .agg parts => uptoBulkAll parts + 1
  | .iface _ d => uptoBulk d + 1
  | .map entries => uptoBulkEntries entries + 1
  | .held _ => 1
def uptoBulkAll {H : Type} : List (DataW H) → Nat
  | [] => 0
  | d :: r => uptoBulk d + uptoBulkAll r
def uptoBulkEntries {H : Type} : List (Lit × DataW H) → Nat
  | [] => 0
  | x :: r => uptoBulkEntry x + uptoBulkEntries r
def uptoBulkEntry {H : Type} : Lit × DataW H → Nat
  | (.string bytes, d) => bytes.length + uptoBulk d + 1
  | (_, d) => uptoBulk d + 1
 end
def uptoSmall : (H : Type) → List (DataW H) → Bool := fun _ ds => decide (uptoBulkAll ds ≤ 1048576)
def OpenSpec.upto (s : _root_.Go.ChangeSpec) : _root_.Go.OpenSpec := { _root_.Go.OpenSpec.ofChange s with cond := some uptoSmall }

/-- 'foghornlaw05.SliceAxes', WHERE WHAT IT READS IS OF BULK AT MOST 1048576: true; the input reads as it did. -/
def sliceAxesUptoRow : OpenClaim := { program := "ytgfbejlggakkhaa", sum := "0d3f404b98dddfa19eea52073ac4d21f259c0cffadcb05d3512dbc461ea1ccca", func := "foghorn/foghornlaw05.SliceAxes", spec := "sliceAxes", inPlace := ["math.Float64frombits", "math.archMin", "math.Float64bits", "math.archMax", "math.archCeil", "math.archFloor", "math.archTrunc"], unfollowed := true, recurses := true, apart := false, narrowed := true }
def SliceAxesUptoSaid : Prop := sliceAxesUptoRow.holds Try.pinned (OpenSpec.upto sliceAxesSpec)

/-- 'foghornlaw05.SliceDecides', WHERE WHAT IT READS IS OF BULK AT MOST 1048576: true; the input reads as it did. -/
def sliceDecidesUptoRow : OpenClaim := { program := "ytgfbejlggakkhaa", sum := "0d3f404b98dddfa19eea52073ac4d21f259c0cffadcb05d3512dbc461ea1ccca", func := "foghorn/foghornlaw05.SliceDecides", spec := "sliceDecides", inPlace := ["math.Float64frombits", "math.Float64bits", "math.archMin", "math.archMax", "math.archCeil", "math.archFloor", "math.archTrunc"], unfollowed := true, recurses := true, apart := false, narrowed := true }
def SliceDecidesUptoSaid : Prop := sliceDecidesUptoRow.holds Try.pinned (OpenSpec.upto sliceDecidesSpec)

/-- 'foghornlaw05.SliceNear', WHERE WHAT IT READS IS OF BULK AT MOST 1048576: true; the input reads as it did. -/
def sliceNearUptoRow : OpenClaim := { program := "ytgfbejlggakkhaa", sum := "0d3f404b98dddfa19eea52073ac4d21f259c0cffadcb05d3512dbc461ea1ccca", func := "foghorn/foghornlaw05.SliceNear", spec := "sliceNear", inPlace := ["math.Float64bits", "math.Float64frombits", "math.archMin", "math.archMax", "math.archCeil", "math.archFloor", "math.archTrunc"], unfollowed := true, recurses := true, apart := false, narrowed := true }
def SliceNearUptoSaid : Prop := sliceNearUptoRow.holds Try.pinned (OpenSpec.upto sliceNearSpec)

/-- 'foghornlaw05.SliceLeast', WHERE WHAT IT READS IS OF BULK AT MOST 1048576: true; the input reads as it did. -/
def sliceLeastUptoRow : OpenClaim := { program := "ytgfbejlggakkhaa", sum := "0d3f404b98dddfa19eea52073ac4d21f259c0cffadcb05d3512dbc461ea1ccca", func := "foghorn/foghornlaw05.SliceLeast", spec := "sliceLeast", inPlace := ["math.Float64bits", "math.Float64frombits", "math.archMin", "math.archMax", "math.archCeil", "math.archFloor", "math.archTrunc"], unfollowed := true, recurses := true, apart := false, narrowed := true }
def SliceLeastUptoSaid : Prop := sliceLeastUptoRow.holds Try.pinned (OpenSpec.upto sliceLeastSpec)

/-- 'foghornlaw05.SliceTurned', WHERE WHAT IT READS IS OF BULK AT MOST 1048576: true; the input reads as it did. -/
def sliceTurnedUptoRow : OpenClaim := { program := "ytgfbejlggakkhaa", sum := "0d3f404b98dddfa19eea52073ac4d21f259c0cffadcb05d3512dbc461ea1ccca", func := "foghorn/foghornlaw05.SliceTurned", spec := "sliceTurned", inPlace := ["math.Float64bits", "math.Float64frombits", "math.archMin", "math.archMax", "math.archCeil", "math.archFloor", "math.archTrunc"], unfollowed := true, recurses := true, apart := false, narrowed := true }
def SliceTurnedUptoSaid : Prop := sliceTurnedUptoRow.holds Try.pinned (OpenSpec.upto sliceTurnedSpec)

/-- 'foghornlaw05.SliceRows', WHERE WHAT IT READS IS OF BULK AT MOST 1048576: true; the input reads as it did. -/
def sliceRowsUptoRow : OpenClaim := { program := "ytgfbejlggakkhaa", sum := "0d3f404b98dddfa19eea52073ac4d21f259c0cffadcb05d3512dbc461ea1ccca", func := "foghorn/foghornlaw05.SliceRows", spec := "sliceRows", inPlace := ["math.archFloor", "math.Float64bits", "math.Float64frombits", "math.archTrunc", "math.archMin", "math.archMax", "math.archCeil"], unfollowed := true, recurses := true, apart := false, narrowed := true }
def SliceRowsUptoSaid : Prop := sliceRowsUptoRow.holds Try.pinned (OpenSpec.upto sliceRowsSpec)

/-- 'foghornlaw05.SliceNames', WHERE WHAT IT READS IS OF BULK AT MOST 1048576: true; the input reads as it did. -/
def sliceNamesUptoRow : OpenClaim := { program := "ytgfbejlggakkhaa", sum := "0d3f404b98dddfa19eea52073ac4d21f259c0cffadcb05d3512dbc461ea1ccca", func := "foghorn/foghornlaw05.SliceNames", spec := "sliceNames", inPlace := ["math.archMin", "math.Float64bits", "math.Float64frombits", "math.archMax", "math.archCeil", "math.archFloor", "math.archTrunc"], unfollowed := true, recurses := true, apart := false, narrowed := true }
def SliceNamesUptoSaid : Prop := sliceNamesUptoRow.holds Try.pinned (OpenSpec.upto sliceNamesSpec)

end Rows
end Go.Proofs.Ytgfbejlggakkhaa
