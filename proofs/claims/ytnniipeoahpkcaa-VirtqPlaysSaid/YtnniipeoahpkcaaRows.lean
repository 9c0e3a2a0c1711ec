/-
  No cell of these rows narrows 'for every input' (looked for: loops, veiled, ifaces, maps, wideKeys, modest, calm, conditions, laid).
  DERIVED. THE GIVEN ROWS OF THIS SEAT. 4 by the template 'for every input the law returns true; each argument reads behind the call as it read before'; 0 by the template 'total and deterministic' (their statements: YtnniipeoahpkcaaTotals.lean).
  GIVEN WITH THE SEED: the statements are not yours to turn. If you find one false, say at which input.
  Laid BY PROGRAM, IN A SANDBOX (cutbox-rows.mjs): the forced cells as the released guide's own fill.sh prints them over the translation 95819617bb244885… (all of the seat's roots in one cut). By AI agents, Wed Nov 11 2026. No macro, syntax, notation, axiom, sorry.
-/
import Derived.Test.YtnniipeoahpkcaaChecked
import GoSem.Claim
import GoSem.ClaimJoined
import GoSem.ClaimMapViews
import Derived.JoinedTies
import Derived.KernelRfl
namespace Go.Proofs.Ytnniipeoahpkcaa
/- THE CELL 'sum', in the pinned program and in every row, IS THE sha256 OF THE DUMP (.gsa) THAT YtnniipeoahpkcaaProg.lean LOADS. Nothing in Lean hashes anything: it is a label: what it is worth is what the hold of that sum in a sandbox is worth. -/
noncomputable def Try.pinned : Pinned := { name := "ytnniipeoahpkcaa", sum := "95819617bb24488553f9eaa33bcd3f18f0516674567310ec51f52c0f5a5d1ce6", checked := Try.checked }
namespace Rows
def none {H : Type} : Left H := { results := [], args := [] }

/-- 'undercroftlaw3.VirtqRound': WHATEVER THE INPUT: true; the input reads as it did. -/
def virtqRoundSpec : ChangeSpec := { name := "virtqRound", fn := fun _ => fun
  | [d1, d2] => { results := [.lit (.bool true)], args := [d1, d2] }
  | _ => none }
def virtqRoundRow : OpenClaim := { program := "ytnniipeoahpkcaa", sum := "95819617bb24488553f9eaa33bcd3f18f0516674567310ec51f52c0f5a5d1ce6", func := "undercroft/undercroftlaw3.VirtqRound", spec := "virtqRound", apart := false }
def VirtqRoundSaid : Prop := virtqRoundRow.holds Try.pinned (OpenSpec.ofChange virtqRoundSpec)

/-- ITS FALSE NEIGHBOUR: 'it returns false'. Refute it at one input. -/
def virtqRoundWrong : ChangeSpec := { name := "virtqRound", fn := fun _ => fun
  | [d1, d2] => { results := [.lit (.bool false)], args := [d1, d2] }
  | _ => none }
def VirtqRoundWrongFalsely : Prop := virtqRoundRow.holds Try.pinned (OpenSpec.ofChange virtqRoundWrong)

/-- 'undercroftlaw3.VirtqWild': WHATEVER THE INPUT: true; the input reads as it did. -/
def virtqWildSpec : ChangeSpec := { name := "virtqWild", fn := fun _ => fun
  | [d1, d2, d3, d4] => { results := [.lit (.bool true)], args := [d1, d2, d3, d4] }
  | _ => none }
def virtqWildRow : OpenClaim := { program := "ytnniipeoahpkcaa", sum := "95819617bb24488553f9eaa33bcd3f18f0516674567310ec51f52c0f5a5d1ce6", func := "undercroft/undercroftlaw3.VirtqWild", spec := "virtqWild", apart := false }
def VirtqWildSaid : Prop := virtqWildRow.holds Try.pinned (OpenSpec.ofChange virtqWildSpec)

/-- ITS FALSE NEIGHBOUR: 'it returns false'. Refute it at one input. -/
def virtqWildWrong : ChangeSpec := { name := "virtqWild", fn := fun _ => fun
  | [d1, d2, d3, d4] => { results := [.lit (.bool false)], args := [d1, d2, d3, d4] }
  | _ => none }
def VirtqWildWrongFalsely : Prop := virtqWildRow.holds Try.pinned (OpenSpec.ofChange virtqWildWrong)

/-- 'undercroftlaw3.VirtqPlays': WHATEVER THE INPUT: true; the input reads as it did. -/
def virtqPlaysSpec : ChangeSpec := { name := "virtqPlays", fn := fun _ => fun
  | [d1, d2, d3, d4] => { results := [.lit (.bool true)], args := [d1, d2, d3, d4] }
  | _ => none }
def virtqPlaysRow : OpenClaim := { program := "ytnniipeoahpkcaa", sum := "95819617bb24488553f9eaa33bcd3f18f0516674567310ec51f52c0f5a5d1ce6", func := "undercroft/undercroftlaw3.VirtqPlays", spec := "virtqPlays", unfollowed := true, recurses := true, apart := false }
def VirtqPlaysSaid : Prop := virtqPlaysRow.holds Try.pinned (OpenSpec.ofChange virtqPlaysSpec)

/-- ITS FALSE NEIGHBOUR: 'it returns false'. Refute it at one input. -/
def virtqPlaysWrong : ChangeSpec := { name := "virtqPlays", fn := fun _ => fun
  | [d1, d2, d3, d4] => { results := [.lit (.bool false)], args := [d1, d2, d3, d4] }
  | _ => none }
def VirtqPlaysWrongFalsely : Prop := virtqPlaysRow.holds Try.pinned (OpenSpec.ofChange virtqPlaysWrong)

/-- 'undercroftlaw3.VirtqOrder': WHATEVER THE INPUT: true; the input reads as it did. -/
def virtqOrderSpec : ChangeSpec := { name := "virtqOrder", fn := fun _ => fun
  | [d1, d2, d3] => { results := [.lit (.bool true)], args := [d1, d2, d3] }
  | _ => none }
def virtqOrderRow : OpenClaim := { program := "ytnniipeoahpkcaa", sum := "95819617bb24488553f9eaa33bcd3f18f0516674567310ec51f52c0f5a5d1ce6", func := "undercroft/undercroftlaw3.VirtqOrder", spec := "virtqOrder", unfollowed := true, recurses := true, apart := false }
def VirtqOrderSaid : Prop := virtqOrderRow.holds Try.pinned (OpenSpec.ofChange virtqOrderSpec)

/-- ITS FALSE NEIGHBOUR: 'it returns false'. Refute it at one input. -/
def virtqOrderWrong : ChangeSpec := { name := "virtqOrder", fn := fun _ => fun
  | [d1, d2, d3] => { results := [.lit (.bool false)], args := [d1, d2, d3] }
  | _ => none }
def VirtqOrderWrongFalsely : Prop := virtqOrderRow.holds Try.pinned (OpenSpec.ofChange virtqOrderWrong)

/- THE SECOND FORM. 'bulk': how many values and letters a reading holds, each counted each time it is reached (what is shared counts as often as it is met; a slice's spare places count too). A statement '..UptoSaid' is the law's where the arguments, and the package variables that the reading takes, are together of bulk at most 1048576: NARROWER than '..Said'. Prove '..Said' where nothing that the law and all that it calls make is longer than what came in: it says more and counts as full. Else prove '..UptoSaid'. A law counts once. -/
mutual
def uptoBulk {H : Type} : DataW H → Nat
  | .lit (.string bytes) => bytes.length + 1
  | .lit _ => 1
  | .nil => 1
  | .ptr d => uptoBulk d + 1
  | .slice elems spare => uptoBulkAll elems + uptoBulkAll spare + 1
  | .agg parts => uptoBulkAll parts + 1
  | .iface _ d => uptoBulk d + 1
  | .map entries => uptoBulkEntries entries + 1
  | .held _ => 1
def uptoBulkAll {H : Type} : List (DataW H) → Nat
  | [] => 0
  | d :: r => uptoBulk d + uptoBulkAll r
def uptoBulkEntries {H : Type} : List (Lit × DataW H) → Nat
  | [] => 0
  | x :: r => uptoBulkEntry x + uptoBulkEntries r
def uptoBulkEntry {H : Type} : Lit × DataW H → Nat
  | (.string bytes, d) => bytes.length + uptoBulk d + 1
  | (_, d) => uptoBulk d + 1
 end
def uptoSmall : (H : Type) → List (DataW H) → Bool := fun _ ds => decide (uptoBulkAll ds ≤ 1048576)
def OpenSpec.upto (s : _root_.Go.ChangeSpec) : _root_.Go.OpenSpec := { _root_.Go.OpenSpec.ofChange s with cond := some uptoSmall }

/-- 'undercroftlaw3.VirtqRound', WHERE WHAT IT READS IS OF BULK AT MOST 1048576: true; the input reads as it did. -/
def virtqRoundUptoRow : OpenClaim := { program := "ytnniipeoahpkcaa", sum := "95819617bb24488553f9eaa33bcd3f18f0516674567310ec51f52c0f5a5d1ce6", func := "undercroft/undercroftlaw3.VirtqRound", spec := "virtqRound", apart := false, narrowed := true }
def VirtqRoundUptoSaid : Prop := virtqRoundUptoRow.holds Try.pinned (OpenSpec.upto virtqRoundSpec)

/-- 'undercroftlaw3.VirtqWild', WHERE WHAT IT READS IS OF BULK AT MOST 1048576: true; the input reads as it did. -/
def virtqWildUptoRow : OpenClaim := { program := "ytnniipeoahpkcaa", sum := "95819617bb24488553f9eaa33bcd3f18f0516674567310ec51f52c0f5a5d1ce6", func := "undercroft/undercroftlaw3.VirtqWild", spec := "virtqWild", apart := false, narrowed := true }
def VirtqWildUptoSaid : Prop := virtqWildUptoRow.holds Try.pinned (OpenSpec.upto virtqWildSpec)

/-- 'undercroftlaw3.VirtqPlays', WHERE WHAT IT READS IS OF BULK AT MOST 1048576: true; the input reads as it did. -/
def virtqPlaysUptoRow : OpenClaim := { program := "ytnniipeoahpkcaa", sum := "95819617bb24488553f9eaa33bcd3f18f0516674567310ec51f52c0f5a5d1ce6", func := "undercroft/undercroftlaw3.VirtqPlays", spec := "virtqPlays", unfollowed := true, recurses := true, apart := false, narrowed := true }
def VirtqPlaysUptoSaid : Prop := virtqPlaysUptoRow.holds Try.pinned (OpenSpec.upto virtqPlaysSpec)

/-- 'undercroftlaw3.VirtqOrder', WHERE WHAT IT READS IS OF BULK AT MOST 1048576: true; the input reads as it did. -/
def virtqOrderUptoRow : OpenClaim := { program := "ytnniipeoahpkcaa", sum := "95819617bb24488553f9eaa33bcd3f18f0516674567310ec51f52c0f5a5d1ce6", func := "undercroft/undercroftlaw3.VirtqOrder", spec := "virtqOrder", unfollowed := true, recurses := true, apart := false, narrowed := true }
def VirtqOrderUptoSaid : Prop := virtqOrderUptoRow.holds Try.pinned (OpenSpec.upto virtqOrderSpec)

end Rows
end Go.Proofs.Ytnniipeoahpkcaa
