/-
  No cell of these rows narrows 'for every input' (looked for: loops, veiled, ifaces, maps, wideKeys, modest, calm, conditions, laid).
  DERIVED. THE GIVEN ROWS OF THIS SEAT. 6 by the template 'for every input the law returns true; each argument reads behind the call as it read before'; 0 by the template 'total and deterministic' (their statements: YtcehhkhcofokkaaTotals.lean).
  GIVEN WITH THE SEED: the statements are not yours to turn. If you find one false, say at which input.
  Laid BY PROGRAM, IN A SANDBOX (cutbox-rows.mjs): the forced cells as the released guide's own fill.sh prints them over the translation f984fc7e30e9e4c4… (all of the seat's roots in one cut). By AI agents, Wed Nov 11 2026. No macro, syntax, notation, axiom, sorry.
-/
import Derived.Test.YtcehhkhcofokkaaChecked
import GoSem.Claim
import GoSem.ClaimJoined
import GoSem.ClaimMapViews
import Derived.JoinedTies
import Derived.KernelRfl
namespace Go.Proofs.Ytcehhkhcofokkaa
/- THE CELL 'sum', in the pinned program and in every row, IS THE sha256 OF THE DUMP (.gsa) THAT YtcehhkhcofokkaaProg.lean LOADS. Nothing in Lean hashes anything: it is a label: what it is worth is what the hold of that sum in a sandbox is worth. -/
noncomputable def Try.pinned : Pinned := { name := "ytcehhkhcofokkaa", sum := "f984fc7e30e9e4c4fc5ca28e37f5b9beadb744c75c44dffc1e7990d45ef7a667", checked := Try.checked }
namespace Rows
def none {H : Type} : Left H := { results := [], args := [] }

/-- 'undercroftlaw6.SchedWakes': WHATEVER THE INPUT: true; the input reads as it did. -/
def schedWakesSpec : ChangeSpec := { name := "schedWakes", fn := fun _ => fun
  | [d1, d2, d3] => { results := [.lit (.bool true)], args := [d1, d2, d3] }
  | _ => none }
def schedWakesRow : OpenClaim := { program := "ytcehhkhcofokkaa", sum := "f984fc7e30e9e4c4fc5ca28e37f5b9beadb744c75c44dffc1e7990d45ef7a667", func := "undercroft/undercroftlaw6.SchedWakes", spec := "schedWakes", unfollowed := true, recurses := true, apart := false }
def SchedWakesSaid : Prop := schedWakesRow.holds Try.pinned (OpenSpec.ofChange schedWakesSpec)

/-- ITS FALSE NEIGHBOUR: 'it returns false'. Refute it at one input. -/
def schedWakesWrong : ChangeSpec := { name := "schedWakes", fn := fun _ => fun
  | [d1, d2, d3] => { results := [.lit (.bool false)], args := [d1, d2, d3] }
  | _ => none }
def SchedWakesWrongFalsely : Prop := schedWakesRow.holds Try.pinned (OpenSpec.ofChange schedWakesWrong)

/-- 'undercroftlaw6.SchedExits': WHATEVER THE INPUT: true; the input reads as it did. -/
def schedExitsSpec : ChangeSpec := { name := "schedExits", fn := fun _ => fun
  | [d1, d2, d3] => { results := [.lit (.bool true)], args := [d1, d2, d3] }
  | _ => none }
def schedExitsRow : OpenClaim := { program := "ytcehhkhcofokkaa", sum := "f984fc7e30e9e4c4fc5ca28e37f5b9beadb744c75c44dffc1e7990d45ef7a667", func := "undercroft/undercroftlaw6.SchedExits", spec := "schedExits", unfollowed := true, recurses := true, apart := false }
def SchedExitsSaid : Prop := schedExitsRow.holds Try.pinned (OpenSpec.ofChange schedExitsSpec)

/-- ITS FALSE NEIGHBOUR: 'it returns false'. Refute it at one input. -/
def schedExitsWrong : ChangeSpec := { name := "schedExits", fn := fun _ => fun
  | [d1, d2, d3] => { results := [.lit (.bool false)], args := [d1, d2, d3] }
  | _ => none }
def SchedExitsWrongFalsely : Prop := schedExitsRow.holds Try.pinned (OpenSpec.ofChange schedExitsWrong)

/-- 'undercroftlaw6.SchedTurns': WHATEVER THE INPUT: true; the input reads as it did. -/
def schedTurnsSpec : ChangeSpec := { name := "schedTurns", fn := fun _ => fun
  | [d1, d2] => { results := [.lit (.bool true)], args := [d1, d2] }
  | _ => none }
def schedTurnsRow : OpenClaim := { program := "ytcehhkhcofokkaa", sum := "f984fc7e30e9e4c4fc5ca28e37f5b9beadb744c75c44dffc1e7990d45ef7a667", func := "undercroft/undercroftlaw6.SchedTurns", spec := "schedTurns", unfollowed := true, recurses := true, apart := false }
def SchedTurnsSaid : Prop := schedTurnsRow.holds Try.pinned (OpenSpec.ofChange schedTurnsSpec)

/-- ITS FALSE NEIGHBOUR: 'it returns false'. Refute it at one input. -/
def schedTurnsWrong : ChangeSpec := { name := "schedTurns", fn := fun _ => fun
  | [d1, d2] => { results := [.lit (.bool false)], args := [d1, d2] }
  | _ => none }
def SchedTurnsWrongFalsely : Prop := schedTurnsRow.holds Try.pinned (OpenSpec.ofChange schedTurnsWrong)

/-- 'undercroftlaw6.SchedPlays': WHATEVER THE INPUT: true; the input reads as it did. -/
def schedPlaysSpec : ChangeSpec := { name := "schedPlays", fn := fun _ => fun
  | [d1, d2] => { results := [.lit (.bool true)], args := [d1, d2] }
  | _ => none }
def schedPlaysRow : OpenClaim := { program := "ytcehhkhcofokkaa", sum := "f984fc7e30e9e4c4fc5ca28e37f5b9beadb744c75c44dffc1e7990d45ef7a667", func := "undercroft/undercroftlaw6.SchedPlays", spec := "schedPlays", unfollowed := true, recurses := true, apart := false }
def SchedPlaysSaid : Prop := schedPlaysRow.holds Try.pinned (OpenSpec.ofChange schedPlaysSpec)

/-- ITS FALSE NEIGHBOUR: 'it returns false'. Refute it at one input. -/
def schedPlaysWrong : ChangeSpec := { name := "schedPlays", fn := fun _ => fun
  | [d1, d2] => { results := [.lit (.bool false)], args := [d1, d2] }
  | _ => none }
def SchedPlaysWrongFalsely : Prop := schedPlaysRow.holds Try.pinned (OpenSpec.ofChange schedPlaysWrong)

/-- 'undercroftlaw6.SchedLocks': WHATEVER THE INPUT: true; the input reads as it did. -/
def schedLocksSpec : ChangeSpec := { name := "schedLocks", fn := fun _ => fun
  | [d1, d2, d3, d4] => { results := [.lit (.bool true)], args := [d1, d2, d3, d4] }
  | _ => none }
def schedLocksRow : OpenClaim := { program := "ytcehhkhcofokkaa", sum := "f984fc7e30e9e4c4fc5ca28e37f5b9beadb744c75c44dffc1e7990d45ef7a667", func := "undercroft/undercroftlaw6.SchedLocks", spec := "schedLocks", unfollowed := true, recurses := true, apart := false }
def SchedLocksSaid : Prop := schedLocksRow.holds Try.pinned (OpenSpec.ofChange schedLocksSpec)

/-- ITS FALSE NEIGHBOUR: 'it returns false'. Refute it at one input. -/
def schedLocksWrong : ChangeSpec := { name := "schedLocks", fn := fun _ => fun
  | [d1, d2, d3, d4] => { results := [.lit (.bool false)], args := [d1, d2, d3, d4] }
  | _ => none }
def SchedLocksWrongFalsely : Prop := schedLocksRow.holds Try.pinned (OpenSpec.ofChange schedLocksWrong)

/-- 'undercroftlaw6.SchedClock': WHATEVER THE INPUT: true; the input reads as it did. -/
def schedClockSpec : ChangeSpec := { name := "schedClock", fn := fun _ => fun
  | [d1, d2] => { results := [.lit (.bool true)], args := [d1, d2] }
  | _ => none }
def schedClockRow : OpenClaim := { program := "ytcehhkhcofokkaa", sum := "f984fc7e30e9e4c4fc5ca28e37f5b9beadb744c75c44dffc1e7990d45ef7a667", func := "undercroft/undercroftlaw6.SchedClock", spec := "schedClock", unfollowed := true, recurses := true, apart := false }
def SchedClockSaid : Prop := schedClockRow.holds Try.pinned (OpenSpec.ofChange schedClockSpec)

/-- ITS FALSE NEIGHBOUR: 'it returns false'. Refute it at one input. -/
def schedClockWrong : ChangeSpec := { name := "schedClock", fn := fun _ => fun
  | [d1, d2] => { results := [.lit (.bool false)], args := [d1, d2] }
  | _ => none }
def SchedClockWrongFalsely : Prop := schedClockRow.holds Try.pinned (OpenSpec.ofChange schedClockWrong)

/- THE SECOND FORM. 'bulk': how many values and letters a reading holds, each counted each time it is reached (what is shared counts as often as it is met; a slice's spare places count too). A statement '..UptoSaid' is the law's where the arguments, and the package variables that the reading takes, are together of bulk at most 1048576: NARROWER than '..Said'. Prove '..Said' where nothing that the law and all that it calls make is longer than what came in: it says more and counts as full. Else prove '..UptoSaid'. A law counts once. -/
mutual
def uptoBulk {H : Type} : DataW H → Nat
  | .lit (.string bytes) => bytes.length + 1
  | .lit _ => 1
  | .nil => 1
  | .ptr d => uptoBulk d + 1
  | .slice elems spare => uptoBulkAll elems + uptoBulkAll spare + 1
  | .agg parts => uptoBulkAll parts + 1
  | .iface _ d => uptoBulk d + 1
  | .map entries => uptoBulkEntries entries + 1
  | .held _ => 1
def uptoBulkAll {H : Type} : List (DataW H) → Nat
  | [] => 0
  | d :: r => uptoBulk d + uptoBulkAll r
def uptoBulkEntries {H : Type} : List (Lit × DataW H) → Nat
  | [] => 0
  | x :: r => uptoBulkEntry x + uptoBulkEntries r
def uptoBulkEntry {H : Type} : Lit × DataW H → Nat
  | (.string bytes, d) => bytes.length + uptoBulk d + 1
  | (_, d) => uptoBulk d + 1
 end
def uptoSmall : (H : Type) → List (DataW H) → Bool := fun _ ds => decide (uptoBulkAll ds ≤ 1048576)
def OpenSpec.upto (s : _root_.Go.ChangeSpec) : _root_.Go.OpenSpec := { _root_.Go.OpenSpec.ofChange s with cond := some uptoSmall }

/-- 'undercroftlaw6.SchedWakes', WHERE WHAT IT READS IS OF BULK AT MOST 1048576: true; the input reads as it did. -/
def schedWakesUptoRow : OpenClaim := { program := "ytcehhkhcofokkaa", sum := "f984fc7e30e9e4c4fc5ca28e37f5b9beadb744c75c44dffc1e7990d45ef7a667", func := "undercroft/undercroftlaw6.SchedWakes", spec := "schedWakes", unfollowed := true, recurses := true, apart := false, narrowed := true }
def SchedWakesUptoSaid : Prop := schedWakesUptoRow.holds Try.pinned (OpenSpec.upto schedWakesSpec)

/-- 'undercroftlaw6.SchedExits', WHERE WHAT IT READS IS OF BULK AT MOST 1048576: true; the input reads as it did. -/
def schedExitsUptoRow : OpenClaim := { program := "ytcehhkhcofokkaa", sum := "f984fc7e30e9e4c4fc5ca28e37f5b9beadb744c75c44dffc1e7990d45ef7a667", func := "undercroft/undercroftlaw6.SchedExits", spec := "schedExits", unfollowed := true, recurses := true, apart := false, narrowed := true }
def SchedExitsUptoSaid : Prop := schedExitsUptoRow.holds Try.pinned (OpenSpec.upto schedExitsSpec)

/-- 'undercroftlaw6.SchedTurns', WHERE WHAT IT READS IS OF BULK AT MOST 1048576: true; the input reads as it did. -/
def schedTurnsUptoRow : OpenClaim := { program := "ytcehhkhcofokkaa", sum := "f984fc7e30e9e4c4fc5ca28e37f5b9beadb744c75c44dffc1e7990d45ef7a667", func := "undercroft/undercroftlaw6.SchedTurns", spec := "schedTurns", unfollowed := true, recurses := true, apart := false, narrowed := true }
def SchedTurnsUptoSaid : Prop := schedTurnsUptoRow.holds Try.pinned (OpenSpec.upto schedTurnsSpec)

/-- 'undercroftlaw6.SchedPlays', WHERE WHAT IT READS IS OF BULK AT MOST 1048576: true; the input reads as it did. -/
def schedPlaysUptoRow : OpenClaim := { program := "ytcehhkhcofokkaa", sum := "f984fc7e30e9e4c4fc5ca28e37f5b9beadb744c75c44dffc1e7990d45ef7a667", func := "undercroft/undercroftlaw6.SchedPlays", spec := "schedPlays", unfollowed := true, recurses := true, apart := false, narrowed := true }
def SchedPlaysUptoSaid : Prop := schedPlaysUptoRow.holds Try.pinned (OpenSpec.upto schedPlaysSpec)

/-- 'undercroftlaw6.SchedLocks', WHERE WHAT IT READS IS OF BULK AT MOST 1048576: true; the input reads as it did. -/
def schedLocksUptoRow : OpenClaim := { program := "ytcehhkhcofokkaa", sum := "f984fc7e30e9e4c4fc5ca28e37f5b9beadb744c75c44dffc1e7990d45ef7a667", func := "undercroft/undercroftlaw6.SchedLocks", spec := "schedLocks", unfollowed := true, recurses := true, apart := false, narrowed := true }
def SchedLocksUptoSaid : Prop := schedLocksUptoRow.holds Try.pinned (OpenSpec.upto schedLocksSpec)

/-- 'undercroftlaw6.SchedClock', WHERE WHAT IT READS IS OF BULK AT MOST 1048576: true; the input reads as it did. -/
def schedClockUptoRow : OpenClaim := { program := "ytcehhkhcofokkaa", sum := "f984fc7e30e9e4c4fc5ca28e37f5b9beadb744c75c44dffc1e7990d45ef7a667", func := "undercroft/undercroftlaw6.SchedClock", spec := "schedClock", unfollowed := true, recurses := true, apart := false, narrowed := true }
def SchedClockUptoSaid : Prop := schedClockUptoRow.holds Try.pinned (OpenSpec.upto schedClockSpec)

end Rows
end Go.Proofs.Ytcehhkhcofokkaa
