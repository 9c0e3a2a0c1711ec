/-
  No cell of these rows narrows 'for every input' (looked for: loops, veiled, ifaces, maps, wideKeys, modest, calm, conditions, laid).
  DERIVED. THE GIVEN ROWS OF THIS SEAT. 5 by the template 'for every input the law returns true; each argument reads behind the call as it read before'; 0 by the template 'total and deterministic' (their statements: YtgbaigbplaoeaaaTotals.lean).
  GIVEN WITH THE SEED: the statements are not yours to turn. If you find one false, say at which input.
  Laid BY PROGRAM, IN A SANDBOX (cutbox-rows.mjs): the forced cells as the released guide's own fill.sh prints them over the translation 17ca8e72b87c283f… (all of the seat's roots in one cut). By AI agents, Wed Nov 11 2026. No macro, syntax, notation, axiom, sorry.
-/
import Derived.Test.YtgbaigbplaoeaaaChecked
import GoSem.Claim
import GoSem.ClaimJoined
import GoSem.ClaimMapViews
import Derived.JoinedTies
import Derived.KernelRfl
namespace Go.Proofs.Ytgbaigbplaoeaaa
/- THE CELL 'sum', in the pinned program and in every row, IS THE sha256 OF THE DUMP (.gsa) THAT YtgbaigbplaoeaaaProg.lean LOADS. Nothing in Lean hashes anything: it is a label: what it is worth is what the hold of that sum in a sandbox is worth. -/
noncomputable def Try.pinned : Pinned := { name := "ytgbaigbplaoeaaa", sum := "17ca8e72b87c283f5da944ce91a908c0a70f1d93d7f1568413b037b5781644fc", checked := Try.checked }
namespace Rows
def none {H : Type} : Left H := { results := [], args := [] }

/-- 'undercroftlaw9.VolReads': WHATEVER THE INPUT: true; the input reads as it did. -/
def volReadsSpec : ChangeSpec := { name := "volReads", fn := fun _ => fun
  | [d1, d2, d3, d4] => { results := [.lit (.bool true)], args := [d1, d2, d3, d4] }
  | _ => none }
def volReadsRow : OpenClaim := { program := "ytgbaigbplaoeaaa", sum := "17ca8e72b87c283f5da944ce91a908c0a70f1d93d7f1568413b037b5781644fc", func := "undercroft/undercroftlaw9.VolReads", spec := "volReads", unfollowed := true, recurses := true, apart := false }
def VolReadsSaid : Prop := volReadsRow.holds Try.pinned (OpenSpec.ofChange volReadsSpec)

/-- ITS FALSE NEIGHBOUR: 'it returns false'. Refute it at one input. -/
def volReadsWrong : ChangeSpec := { name := "volReads", fn := fun _ => fun
  | [d1, d2, d3, d4] => { results := [.lit (.bool false)], args := [d1, d2, d3, d4] }
  | _ => none }
def VolReadsWrongFalsely : Prop := volReadsRow.holds Try.pinned (OpenSpec.ofChange volReadsWrong)

/-- 'undercroftlaw9.VolTakes': WHATEVER THE INPUT: true; the input reads as it did. -/
def volTakesSpec : ChangeSpec := { name := "volTakes", fn := fun _ => fun
  | [d1, d2, d3] => { results := [.lit (.bool true)], args := [d1, d2, d3] }
  | _ => none }
def volTakesRow : OpenClaim := { program := "ytgbaigbplaoeaaa", sum := "17ca8e72b87c283f5da944ce91a908c0a70f1d93d7f1568413b037b5781644fc", func := "undercroft/undercroftlaw9.VolTakes", spec := "volTakes", inPlace := ["internal/reflectlite.TypeOf"], unfollowed := true, recurses := true, apart := false }
def VolTakesSaid : Prop := volTakesRow.holds Try.pinned (OpenSpec.ofChange volTakesSpec)

/-- ITS FALSE NEIGHBOUR: 'it returns false'. Refute it at one input. -/
def volTakesWrong : ChangeSpec := { name := "volTakes", fn := fun _ => fun
  | [d1, d2, d3] => { results := [.lit (.bool false)], args := [d1, d2, d3] }
  | _ => none }
def VolTakesWrongFalsely : Prop := volTakesRow.holds Try.pinned (OpenSpec.ofChange volTakesWrong)

/-- 'undercroftlaw9.VolLayout': WHATEVER THE INPUT: true; the input reads as it did. -/
def volLayoutSpec : ChangeSpec := { name := "volLayout", fn := fun _ => fun
  | [d1, d2] => { results := [.lit (.bool true)], args := [d1, d2] }
  | _ => none }
def volLayoutRow : OpenClaim := { program := "ytgbaigbplaoeaaa", sum := "17ca8e72b87c283f5da944ce91a908c0a70f1d93d7f1568413b037b5781644fc", func := "undercroft/undercroftlaw9.VolLayout", spec := "volLayout", unfollowed := true, recurses := true, apart := false }
def VolLayoutSaid : Prop := volLayoutRow.holds Try.pinned (OpenSpec.ofChange volLayoutSpec)

/-- ITS FALSE NEIGHBOUR: 'it returns false'. Refute it at one input. -/
def volLayoutWrong : ChangeSpec := { name := "volLayout", fn := fun _ => fun
  | [d1, d2] => { results := [.lit (.bool false)], args := [d1, d2] }
  | _ => none }
def VolLayoutWrongFalsely : Prop := volLayoutRow.holds Try.pinned (OpenSpec.ofChange volLayoutWrong)

/-- 'undercroftlaw9.VolPlans': WHATEVER THE INPUT: true; the input reads as it did. -/
def volPlansSpec : ChangeSpec := { name := "volPlans", fn := fun _ => fun
  | [d1, d2, d3, d4] => { results := [.lit (.bool true)], args := [d1, d2, d3, d4] }
  | _ => none }
def volPlansRow : OpenClaim := { program := "ytgbaigbplaoeaaa", sum := "17ca8e72b87c283f5da944ce91a908c0a70f1d93d7f1568413b037b5781644fc", func := "undercroft/undercroftlaw9.VolPlans", spec := "volPlans", unfollowed := true, recurses := true, apart := false }
def VolPlansSaid : Prop := volPlansRow.holds Try.pinned (OpenSpec.ofChange volPlansSpec)

/-- ITS FALSE NEIGHBOUR: 'it returns false'. Refute it at one input. -/
def volPlansWrong : ChangeSpec := { name := "volPlans", fn := fun _ => fun
  | [d1, d2, d3, d4] => { results := [.lit (.bool false)], args := [d1, d2, d3, d4] }
  | _ => none }
def VolPlansWrongFalsely : Prop := volPlansRow.holds Try.pinned (OpenSpec.ofChange volPlansWrong)

/-- 'undercroftlaw9.VolViews': WHATEVER THE INPUT: true; the input reads as it did. -/
def volViewsSpec : ChangeSpec := { name := "volViews", fn := fun _ => fun
  | [d1, d2, d3] => { results := [.lit (.bool true)], args := [d1, d2, d3] }
  | _ => none }
def volViewsRow : OpenClaim := { program := "ytgbaigbplaoeaaa", sum := "17ca8e72b87c283f5da944ce91a908c0a70f1d93d7f1568413b037b5781644fc", func := "undercroft/undercroftlaw9.VolViews", spec := "volViews", inPlace := ["internal/reflectlite.TypeOf"], unfollowed := true, recurses := true, apart := false }
def VolViewsSaid : Prop := volViewsRow.holds Try.pinned (OpenSpec.ofChange volViewsSpec)

/-- ITS FALSE NEIGHBOUR: 'it returns false'. Refute it at one input. -/
def volViewsWrong : ChangeSpec := { name := "volViews", fn := fun _ => fun
  | [d1, d2, d3] => { results := [.lit (.bool false)], args := [d1, d2, d3] }
  | _ => none }
def VolViewsWrongFalsely : Prop := volViewsRow.holds Try.pinned (OpenSpec.ofChange volViewsWrong)

/- THE SECOND FORM. 'bulk': how many values and letters a reading holds, each counted each time it is reached (what is shared counts as often as it is met; a slice's spare places count too). A statement '..UptoSaid' is the law's where the arguments, and the package variables that the reading takes, are together of bulk at most 1048576: NARROWER than '..Said'. Prove '..Said' where nothing that the law and all that it calls make is longer than what came in: it says more and counts as full. Else prove '..UptoSaid'. A law counts once. -/
mutual
def uptoBulk {H : Type} : DataW H → Nat
  | .lit (.string bytes) => bytes.length + 1
  | .lit _ => 1
  | .nil => 1
  | .ptr d => uptoBulk d + 1
  | .slice elems spare => uptoBulkAll elems + uptoBulkAll spare + 1
  | .agg parts => uptoBulkAll parts + 1
  | .iface _ d => uptoBulk d + 1
  | .map entries => uptoBulkEntries entries + 1
  | .held _ => 1
def uptoBulkAll {H : Type} : List (DataW H) → Nat
  | [] => 0
  | d :: r => uptoBulk d + uptoBulkAll r
def uptoBulkEntries {H : Type} : List (Lit × DataW H) → Nat
  | [] => 0
  | x :: r => uptoBulkEntry x + uptoBulkEntries r
def uptoBulkEntry {H : Type} : Lit × DataW H → Nat
  | (.string bytes, d) => bytes.length + uptoBulk d + 1
  | (_, d) => uptoBulk d + 1
 end
def uptoSmall : (H : Type) → List (DataW H) → Bool := fun _ ds => decide (uptoBulkAll ds ≤ 1048576)
def OpenSpec.upto (s : _root_.Go.ChangeSpec) : _root_.Go.OpenSpec := { _root_.Go.OpenSpec.ofChange s with cond := some uptoSmall }

/-- 'undercroftlaw9.VolReads', WHERE WHAT IT READS IS OF BULK AT MOST 1048576: true; the input reads as it did. -/
def volReadsUptoRow : OpenClaim := { program := "ytgbaigbplaoeaaa", sum := "17ca8e72b87c283f5da944ce91a908c0a70f1d93d7f1568413b037b5781644fc", func := "undercroft/undercroftlaw9.VolReads", spec := "volReads", unfollowed := true, recurses := true, apart := false, narrowed := true }
def VolReadsUptoSaid : Prop := volReadsUptoRow.holds Try.pinned (OpenSpec.upto volReadsSpec)

/-- 'undercroftlaw9.VolTakes', WHERE WHAT IT READS IS OF BULK AT MOST 1048576: true; the input reads as it did. -/
def volTakesUptoRow : OpenClaim := { program := "ytgbaigbplaoeaaa", sum := "17ca8e72b87c283f5da944ce91a908c0a70f1d93d7f1568413b037b5781644fc", func := "undercroft/undercroftlaw9.VolTakes", spec := "volTakes", inPlace := ["internal/reflectlite.TypeOf"], unfollowed := true, recurses := true, apart := false, narrowed := true }
def VolTakesUptoSaid : Prop := volTakesUptoRow.holds Try.pinned (OpenSpec.upto volTakesSpec)

/-- 'undercroftlaw9.VolLayout', WHERE WHAT IT READS IS OF BULK AT MOST 1048576: true; the input reads as it did. -/
def volLayoutUptoRow : OpenClaim := { program := "ytgbaigbplaoeaaa", sum := "17ca8e72b87c283f5da944ce91a908c0a70f1d93d7f1568413b037b5781644fc", func := "undercroft/undercroftlaw9.VolLayout", spec := "volLayout", unfollowed := true, recurses := true, apart := false, narrowed := true }
def VolLayoutUptoSaid : Prop := volLayoutUptoRow.holds Try.pinned (OpenSpec.upto volLayoutSpec)

/-- 'undercroftlaw9.VolPlans', WHERE WHAT IT READS IS OF BULK AT MOST 1048576: true; the input reads as it did. -/
def volPlansUptoRow : OpenClaim := { program := "ytgbaigbplaoeaaa", sum := "17ca8e72b87c283f5da944ce91a908c0a70f1d93d7f1568413b037b5781644fc", func := "undercroft/undercroftlaw9.VolPlans", spec := "volPlans", unfollowed := true, recurses := true, apart := false, narrowed := true }
def VolPlansUptoSaid : Prop := volPlansUptoRow.holds Try.pinned (OpenSpec.upto volPlansSpec)

/-- 'undercroftlaw9.VolViews', WHERE WHAT IT READS IS OF BULK AT MOST 1048576: true; the input reads as it did. -/
def volViewsUptoRow : OpenClaim := { program := "ytgbaigbplaoeaaa", sum := "17ca8e72b87c283f5da944ce91a908c0a70f1d93d7f1568413b037b5781644fc", func := "undercroft/undercroftlaw9.VolViews", spec := "volViews", inPlace := ["internal/reflectlite.TypeOf"], unfollowed := true, recurses := true, apart := false, narrowed := true }
def VolViewsUptoSaid : Prop := volViewsUptoRow.holds Try.pinned (OpenSpec.upto volViewsSpec)

end Rows
end Go.Proofs.Ytgbaigbplaoeaaa
