/-
  NARROWER THAN 'FOR EVERY INPUT', by the rows' own cells (each row's printed sentence says how): RpcCreds: laid · RpcRecords: laid · RpcStreams: laid · RpcLong: laid · RpcRefuses: laid · RpcWrites: laid · RpcBack: laid · RpcCalls: laid · RpcTurns: laid.
  DERIVED. THE GIVEN ROWS OF THIS SEAT. 9 by the template 'for every input the law returns true; each argument reads behind the call as it read before'; 0 by the template 'total and deterministic' (their statements: YtpecmkkcepnpeaaDoorTotals.lean).
  GIVEN WITH THE SEED: the statements are not yours to turn. If you find one false, say at which input.
  Laid BY PROGRAM, IN A SANDBOX (cutbox-rows.mjs): the forced cells as the released guide's own fill.sh prints them over the translation 94d22238d93670e0… (all of the seat's roots in one cut). By AI agents, Wed Nov 11 2026. No macro, syntax, notation, axiom, sorry.
-/
import Derived.Test.YtpecmkkcepnpeaaDoorChecked
import GoSem.Claim
import GoSem.ClaimJoined
import GoSem.ClaimMapViews
import Derived.JoinedTies
import Derived.KernelRfl
namespace Go.Proofs.YtpecmkkcepnpeaaDoor
/- THE CELL 'sum', in the pinned program and in every row, IS THE sha256 OF THE DUMP (.gsa) THAT YtpecmkkcepnpeaaDoorProg.lean LOADS. Nothing in Lean hashes anything: it is a label: what it is worth is what the hold of that sum in a sandbox is worth. -/
noncomputable def Tryd.pinned : Pinned := { name := "ytpecmkkcepnpeaadoor", sum := "94d22238d93670e0bb5d3ccaed1cbed10ec9282babc644feeb9dde0c3bc00654", checked := Tryd.checked }
namespace Rows
def none {H : Type} : Left H := { results := [], args := [] }

/- WHAT THE LISTED PACKAGE-LEVEL VARIABLES READ AS WHEN THE CALL BEGINS. Each datum BY PROGRAM (the guide's laid-datum.mjs) off the statement by which the dump's own 'gosem.cut.vars' lays the variable. In a bare row this is a premise. The card (YtpecmkkcepnpeaaDoorCards.lean) ties it to the program's text. -/
def laid_errors_errorType {H : Type} : DataW H := .iface "internal/reflectlite.rtype" (.agg [.ptr (.lit (.string [101, 114, 114, 111, 114]))])

/-- 'undercroftlaw17.RpcCreds': WHATEVER THE INPUT: true; the input reads as it did. -/
def rpcCredsSpec : ChangeSpec := { name := "rpcCreds", fn := fun _ => fun
  | [d1, d2] => { results := [.lit (.bool true)], args := [d1, d2] }
  | _ => none }
def rpcCredsRow : OpenClaim := { program := "ytpecmkkcepnpeaadoor", sum := "94d22238d93670e0bb5d3ccaed1cbed10ec9282babc644feeb9dde0c3bc00654", func := "undercroft/undercroftlaw17.RpcCreds", spec := "rpcCreds", inPlace := ["internal/reflectlite.ValueOf", "(internal/reflectlite.Value).Type", "(internal/reflectlite.Value).IsNil", "internal/reflectlite.TypeOf", "(internal/reflectlite.Value).Elem", "(internal/reflectlite.Value).Set"], unfollowed := true, recurses := true, named := ["errors.errorType"], apart := false, laid := [("errors.errorType", laid_errors_errorType)] }
def RpcCredsSaid : Prop := rpcCredsRow.holds Tryd.pinned (OpenSpec.ofChange rpcCredsSpec)

/-- ITS FALSE NEIGHBOUR: 'it returns false'. Refute it at one input. -/
def rpcCredsWrong : ChangeSpec := { name := "rpcCreds", fn := fun _ => fun
  | [d1, d2] => { results := [.lit (.bool false)], args := [d1, d2] }
  | _ => none }
def RpcCredsWrongFalsely : Prop := rpcCredsRow.holds Tryd.pinned (OpenSpec.ofChange rpcCredsWrong)

/-- 'undercroftlaw17.RpcRecords': WHATEVER THE INPUT: true; the input reads as it did. -/
def rpcRecordsSpec : ChangeSpec := { name := "rpcRecords", fn := fun _ => fun
  | [d] => { results := [.lit (.bool true)], args := [d] }
  | _ => none }
def rpcRecordsRow : OpenClaim := { program := "ytpecmkkcepnpeaadoor", sum := "94d22238d93670e0bb5d3ccaed1cbed10ec9282babc644feeb9dde0c3bc00654", func := "undercroft/undercroftlaw17.RpcRecords", spec := "rpcRecords", inPlace := ["internal/reflectlite.ValueOf", "(internal/reflectlite.Value).Type", "(internal/reflectlite.Value).IsNil", "internal/reflectlite.TypeOf", "(internal/reflectlite.Value).Elem", "(internal/reflectlite.Value).Set"], unfollowed := true, recurses := true, named := ["errors.errorType"], apart := false, laid := [("errors.errorType", laid_errors_errorType)] }
def RpcRecordsSaid : Prop := rpcRecordsRow.holds Tryd.pinned (OpenSpec.ofChange rpcRecordsSpec)

/-- ITS FALSE NEIGHBOUR: 'it returns false'. Refute it at one input. -/
def rpcRecordsWrong : ChangeSpec := { name := "rpcRecords", fn := fun _ => fun
  | [d] => { results := [.lit (.bool false)], args := [d] }
  | _ => none }
def RpcRecordsWrongFalsely : Prop := rpcRecordsRow.holds Tryd.pinned (OpenSpec.ofChange rpcRecordsWrong)

/-- 'undercroftlaw17.RpcStreams': WHATEVER THE INPUT: true; the input reads as it did. -/
def rpcStreamsSpec : ChangeSpec := { name := "rpcStreams", fn := fun _ => fun
  | [d1, d2, d3] => { results := [.lit (.bool true)], args := [d1, d2, d3] }
  | _ => none }
def rpcStreamsRow : OpenClaim := { program := "ytpecmkkcepnpeaadoor", sum := "94d22238d93670e0bb5d3ccaed1cbed10ec9282babc644feeb9dde0c3bc00654", func := "undercroft/undercroftlaw17.RpcStreams", spec := "rpcStreams", inPlace := ["internal/reflectlite.ValueOf", "(internal/reflectlite.Value).Type", "(internal/reflectlite.Value).IsNil", "internal/reflectlite.TypeOf", "(internal/reflectlite.Value).Elem", "(internal/reflectlite.Value).Set"], unfollowed := true, recurses := true, named := ["errors.errorType"], apart := false, laid := [("errors.errorType", laid_errors_errorType)] }
def RpcStreamsSaid : Prop := rpcStreamsRow.holds Tryd.pinned (OpenSpec.ofChange rpcStreamsSpec)

/-- ITS FALSE NEIGHBOUR: 'it returns false'. Refute it at one input. -/
def rpcStreamsWrong : ChangeSpec := { name := "rpcStreams", fn := fun _ => fun
  | [d1, d2, d3] => { results := [.lit (.bool false)], args := [d1, d2, d3] }
  | _ => none }
def RpcStreamsWrongFalsely : Prop := rpcStreamsRow.holds Tryd.pinned (OpenSpec.ofChange rpcStreamsWrong)

/-- 'undercroftlaw17.RpcLong': WHATEVER THE INPUT: true; the input reads as it did. -/
def rpcLongSpec : ChangeSpec := { name := "rpcLong", fn := fun _ => fun
  | [d1, d2, d3] => { results := [.lit (.bool true)], args := [d1, d2, d3] }
  | _ => none }
def rpcLongRow : OpenClaim := { program := "ytpecmkkcepnpeaadoor", sum := "94d22238d93670e0bb5d3ccaed1cbed10ec9282babc644feeb9dde0c3bc00654", func := "undercroft/undercroftlaw17.RpcLong", spec := "rpcLong", inPlace := ["internal/reflectlite.ValueOf", "(internal/reflectlite.Value).Type", "(internal/reflectlite.Value).IsNil", "internal/reflectlite.TypeOf", "(internal/reflectlite.Value).Elem", "(internal/reflectlite.Value).Set"], unfollowed := true, recurses := true, named := ["errors.errorType"], apart := false, laid := [("errors.errorType", laid_errors_errorType)] }
def RpcLongSaid : Prop := rpcLongRow.holds Tryd.pinned (OpenSpec.ofChange rpcLongSpec)

/-- ITS FALSE NEIGHBOUR: 'it returns false'. Refute it at one input. -/
def rpcLongWrong : ChangeSpec := { name := "rpcLong", fn := fun _ => fun
  | [d1, d2, d3] => { results := [.lit (.bool false)], args := [d1, d2, d3] }
  | _ => none }
def RpcLongWrongFalsely : Prop := rpcLongRow.holds Tryd.pinned (OpenSpec.ofChange rpcLongWrong)

/-- 'undercroftlaw17.RpcRefuses': WHATEVER THE INPUT: true; the input reads as it did. -/
def rpcRefusesSpec : ChangeSpec := { name := "rpcRefuses", fn := fun _ => fun
  | [d1, d2] => { results := [.lit (.bool true)], args := [d1, d2] }
  | _ => none }
def rpcRefusesRow : OpenClaim := { program := "ytpecmkkcepnpeaadoor", sum := "94d22238d93670e0bb5d3ccaed1cbed10ec9282babc644feeb9dde0c3bc00654", func := "undercroft/undercroftlaw17.RpcRefuses", spec := "rpcRefuses", inPlace := ["internal/reflectlite.ValueOf", "(internal/reflectlite.Value).Type", "(internal/reflectlite.Value).IsNil", "internal/reflectlite.TypeOf", "(internal/reflectlite.Value).Elem", "(internal/reflectlite.Value).Set"], unfollowed := true, recurses := true, named := ["errors.errorType"], apart := false, laid := [("errors.errorType", laid_errors_errorType)] }
def RpcRefusesSaid : Prop := rpcRefusesRow.holds Tryd.pinned (OpenSpec.ofChange rpcRefusesSpec)

/-- ITS FALSE NEIGHBOUR: 'it returns false'. Refute it at one input. -/
def rpcRefusesWrong : ChangeSpec := { name := "rpcRefuses", fn := fun _ => fun
  | [d1, d2] => { results := [.lit (.bool false)], args := [d1, d2] }
  | _ => none }
def RpcRefusesWrongFalsely : Prop := rpcRefusesRow.holds Tryd.pinned (OpenSpec.ofChange rpcRefusesWrong)

/-- 'undercroftlaw17.RpcWrites': WHATEVER THE INPUT: true; the input reads as it did. -/
def rpcWritesSpec : ChangeSpec := { name := "rpcWrites", fn := fun _ => fun
  | [d1, d2, d3, d4] => { results := [.lit (.bool true)], args := [d1, d2, d3, d4] }
  | _ => none }
def rpcWritesRow : OpenClaim := { program := "ytpecmkkcepnpeaadoor", sum := "94d22238d93670e0bb5d3ccaed1cbed10ec9282babc644feeb9dde0c3bc00654", func := "undercroft/undercroftlaw17.RpcWrites", spec := "rpcWrites", inPlace := ["internal/reflectlite.ValueOf", "(internal/reflectlite.Value).Type", "(internal/reflectlite.Value).IsNil", "internal/reflectlite.TypeOf", "(internal/reflectlite.Value).Elem", "(internal/reflectlite.Value).Set"], unfollowed := true, recurses := true, named := ["errors.errorType"], apart := false, laid := [("errors.errorType", laid_errors_errorType)] }
def RpcWritesSaid : Prop := rpcWritesRow.holds Tryd.pinned (OpenSpec.ofChange rpcWritesSpec)

/-- ITS FALSE NEIGHBOUR: 'it returns false'. Refute it at one input. -/
def rpcWritesWrong : ChangeSpec := { name := "rpcWrites", fn := fun _ => fun
  | [d1, d2, d3, d4] => { results := [.lit (.bool false)], args := [d1, d2, d3, d4] }
  | _ => none }
def RpcWritesWrongFalsely : Prop := rpcWritesRow.holds Tryd.pinned (OpenSpec.ofChange rpcWritesWrong)

/-- 'undercroftlaw17.RpcBack': WHATEVER THE INPUT: true; the input reads as it did. -/
def rpcBackSpec : ChangeSpec := { name := "rpcBack", fn := fun _ => fun
  | [d1, d2, d3] => { results := [.lit (.bool true)], args := [d1, d2, d3] }
  | _ => none }
def rpcBackRow : OpenClaim := { program := "ytpecmkkcepnpeaadoor", sum := "94d22238d93670e0bb5d3ccaed1cbed10ec9282babc644feeb9dde0c3bc00654", func := "undercroft/undercroftlaw17.RpcBack", spec := "rpcBack", inPlace := ["internal/reflectlite.ValueOf", "(internal/reflectlite.Value).Type", "(internal/reflectlite.Value).IsNil", "internal/reflectlite.TypeOf", "(internal/reflectlite.Value).Elem", "(internal/reflectlite.Value).Set"], unfollowed := true, recurses := true, named := ["errors.errorType"], apart := false, laid := [("errors.errorType", laid_errors_errorType)] }
def RpcBackSaid : Prop := rpcBackRow.holds Tryd.pinned (OpenSpec.ofChange rpcBackSpec)

/-- ITS FALSE NEIGHBOUR: 'it returns false'. Refute it at one input. -/
def rpcBackWrong : ChangeSpec := { name := "rpcBack", fn := fun _ => fun
  | [d1, d2, d3] => { results := [.lit (.bool false)], args := [d1, d2, d3] }
  | _ => none }
def RpcBackWrongFalsely : Prop := rpcBackRow.holds Tryd.pinned (OpenSpec.ofChange rpcBackWrong)

/-- 'undercroftlaw17.RpcCalls': WHATEVER THE INPUT: true; the input reads as it did. -/
def rpcCallsSpec : ChangeSpec := { name := "rpcCalls", fn := fun _ => fun
  | [d] => { results := [.lit (.bool true)], args := [d] }
  | _ => none }
def rpcCallsRow : OpenClaim := { program := "ytpecmkkcepnpeaadoor", sum := "94d22238d93670e0bb5d3ccaed1cbed10ec9282babc644feeb9dde0c3bc00654", func := "undercroft/undercroftlaw17.RpcCalls", spec := "rpcCalls", inPlace := ["internal/reflectlite.ValueOf", "(internal/reflectlite.Value).Type", "(internal/reflectlite.Value).IsNil", "internal/reflectlite.TypeOf", "(internal/reflectlite.Value).Elem", "(internal/reflectlite.Value).Set"], unfollowed := true, recurses := true, named := ["errors.errorType"], apart := false, laid := [("errors.errorType", laid_errors_errorType)] }
def RpcCallsSaid : Prop := rpcCallsRow.holds Tryd.pinned (OpenSpec.ofChange rpcCallsSpec)

/-- ITS FALSE NEIGHBOUR: 'it returns false'. Refute it at one input. -/
def rpcCallsWrong : ChangeSpec := { name := "rpcCalls", fn := fun _ => fun
  | [d] => { results := [.lit (.bool false)], args := [d] }
  | _ => none }
def RpcCallsWrongFalsely : Prop := rpcCallsRow.holds Tryd.pinned (OpenSpec.ofChange rpcCallsWrong)

/-- 'undercroftlaw17.RpcTurns': WHATEVER THE INPUT: true; the input reads as it did. -/
def rpcTurnsSpec : ChangeSpec := { name := "rpcTurns", fn := fun _ => fun
  | [d1, d2, d3, d4, d5] => { results := [.lit (.bool true)], args := [d1, d2, d3, d4, d5] }
  | _ => none }
def rpcTurnsRow : OpenClaim := { program := "ytpecmkkcepnpeaadoor", sum := "94d22238d93670e0bb5d3ccaed1cbed10ec9282babc644feeb9dde0c3bc00654", func := "undercroft/undercroftlaw17.RpcTurns", spec := "rpcTurns", inPlace := ["internal/reflectlite.ValueOf", "(internal/reflectlite.Value).Type", "(internal/reflectlite.Value).IsNil", "internal/reflectlite.TypeOf", "(internal/reflectlite.Value).Elem", "(internal/reflectlite.Value).Set"], unfollowed := true, recurses := true, named := ["errors.errorType"], apart := false, laid := [("errors.errorType", laid_errors_errorType)] }
def RpcTurnsSaid : Prop := rpcTurnsRow.holds Tryd.pinned (OpenSpec.ofChange rpcTurnsSpec)

/-- ITS FALSE NEIGHBOUR: 'it returns false'. Refute it at one input. -/
def rpcTurnsWrong : ChangeSpec := { name := "rpcTurns", fn := fun _ => fun
  | [d1, d2, d3, d4, d5] => { results := [.lit (.bool false)], args := [d1, d2, d3, d4, d5] }
  | _ => none }
def RpcTurnsWrongFalsely : Prop := rpcTurnsRow.holds Tryd.pinned (OpenSpec.ofChange rpcTurnsWrong)

/- THE SECOND FORM. 'bulk': how many values and letters a reading holds, each counted each time it is reached (what is shared counts as often as it is met; a slice's spare places count too). A statement '..UptoSaid' is the law's where the arguments, and the package variables that the reading takes, are together of bulk at most 1048576: NARROWER than '..Said'. Prove '..Said' where nothing that the law and all that it calls make is longer than what came in: it says more and counts as full. Else prove '..UptoSaid'. A law counts once. -/
mutual
def uptoBulk {H : Type} : DataW H → Nat
  | .lit (.string bytes) => bytes.length + 1
  | .lit _ => 1
  | .nil => 1
  | .ptr d => uptoBulk d + 1
  | .slice elems spare => uptoBulkAll elems + uptoBulkAll spare + 1
  | .agg parts => uptoBulkAll parts + 1
  | .iface _ d => uptoBulk d + 1
  | .map entries => uptoBulkEntries entries + 1
  | .held _ => 1
def uptoBulkAll {H : Type} : List (DataW H) → Nat
  | [] => 0
  | d :: r => uptoBulk d + uptoBulkAll r
def uptoBulkEntries {H : Type} : List (Lit × DataW H) → Nat
  | [] => 0
  | x :: r => uptoBulkEntry x + uptoBulkEntries r
def uptoBulkEntry {H : Type} : Lit × DataW H → Nat
  | (.string bytes, d) => bytes.length + uptoBulk d + 1
  | (_, d) => uptoBulk d + 1
 end
def uptoSmall : (H : Type) → List (DataW H) → Bool := fun _ ds => decide (uptoBulkAll ds ≤ 1048576)
def OpenSpec.upto (s : _root_.Go.ChangeSpec) : _root_.Go.OpenSpec := { _root_.Go.OpenSpec.ofChange s with cond := some uptoSmall }

/-- 'undercroftlaw17.RpcCreds', WHERE WHAT IT READS IS OF BULK AT MOST 1048576: true; the input reads as it did. -/
def rpcCredsUptoRow : OpenClaim := { program := "ytpecmkkcepnpeaadoor", sum := "94d22238d93670e0bb5d3ccaed1cbed10ec9282babc644feeb9dde0c3bc00654", func := "undercroft/undercroftlaw17.RpcCreds", spec := "rpcCreds", inPlace := ["internal/reflectlite.ValueOf", "(internal/reflectlite.Value).Type", "(internal/reflectlite.Value).IsNil", "internal/reflectlite.TypeOf", "(internal/reflectlite.Value).Elem", "(internal/reflectlite.Value).Set"], unfollowed := true, recurses := true, named := ["errors.errorType"], apart := false, laid := [("errors.errorType", laid_errors_errorType)], narrowed := true }
def RpcCredsUptoSaid : Prop := rpcCredsUptoRow.holds Tryd.pinned (OpenSpec.upto rpcCredsSpec)

/-- 'undercroftlaw17.RpcRecords', WHERE WHAT IT READS IS OF BULK AT MOST 1048576: true; the input reads as it did. -/
def rpcRecordsUptoRow : OpenClaim := { program := "ytpecmkkcepnpeaadoor", sum := "94d22238d93670e0bb5d3ccaed1cbed10ec9282babc644feeb9dde0c3bc00654", func := "undercroft/undercroftlaw17.RpcRecords", spec := "rpcRecords", inPlace := ["internal/reflectlite.ValueOf", "(internal/reflectlite.Value).Type", "(internal/reflectlite.Value).IsNil", "internal/reflectlite.TypeOf", "(internal/reflectlite.Value).Elem", "(internal/reflectlite.Value).Set"], unfollowed := true, recurses := true, named := ["errors.errorType"], apart := false, laid := [("errors.errorType", laid_errors_errorType)], narrowed := true }
def RpcRecordsUptoSaid : Prop := rpcRecordsUptoRow.holds Tryd.pinned (OpenSpec.upto rpcRecordsSpec)

/-- 'undercroftlaw17.RpcStreams', WHERE WHAT IT READS IS OF BULK AT MOST 1048576: true; the input reads as it did. -/
def rpcStreamsUptoRow : OpenClaim := { program := "ytpecmkkcepnpeaadoor", sum := "94d22238d93670e0bb5d3ccaed1cbed10ec9282babc644feeb9dde0c3bc00654", func := "undercroft/undercroftlaw17.RpcStreams", spec := "rpcStreams", inPlace := ["internal/reflectlite.ValueOf", "(internal/reflectlite.Value).Type", "(internal/reflectlite.Value).IsNil", "internal/reflectlite.TypeOf", "(internal/reflectlite.Value).Elem", "(internal/reflectlite.Value).Set"], unfollowed := true, recurses := true, named := ["errors.errorType"], apart := false, laid := [("errors.errorType", laid_errors_errorType)], narrowed := true }
def RpcStreamsUptoSaid : Prop := rpcStreamsUptoRow.holds Tryd.pinned (OpenSpec.upto rpcStreamsSpec)

/-- 'undercroftlaw17.RpcLong', WHERE WHAT IT READS IS OF BULK AT MOST 1048576: true; the input reads as it did. -/
def rpcLongUptoRow : OpenClaim := { program := "ytpecmkkcepnpeaadoor", sum := "94d22238d93670e0bb5d3ccaed1cbed10ec9282babc644feeb9dde0c3bc00654", func := "undercroft/undercroftlaw17.RpcLong", spec := "rpcLong", inPlace := ["internal/reflectlite.ValueOf", "(internal/reflectlite.Value).Type", "(internal/reflectlite.Value).IsNil", "internal/reflectlite.TypeOf", "(internal/reflectlite.Value).Elem", "(internal/reflectlite.Value).Set"], unfollowed := true, recurses := true, named := ["errors.errorType"], apart := false, laid := [("errors.errorType", laid_errors_errorType)], narrowed := true }
def RpcLongUptoSaid : Prop := rpcLongUptoRow.holds Tryd.pinned (OpenSpec.upto rpcLongSpec)

/-- 'undercroftlaw17.RpcRefuses', WHERE WHAT IT READS IS OF BULK AT MOST 1048576: true; the input reads as it did. -/
def rpcRefusesUptoRow : OpenClaim := { program := "ytpecmkkcepnpeaadoor", sum := "94d22238d93670e0bb5d3ccaed1cbed10ec9282babc644feeb9dde0c3bc00654", func := "undercroft/undercroftlaw17.RpcRefuses", spec := "rpcRefuses", inPlace := ["internal/reflectlite.ValueOf", "(internal/reflectlite.Value).Type", "(internal/reflectlite.Value).IsNil", "internal/reflectlite.TypeOf", "(internal/reflectlite.Value).Elem", "(internal/reflectlite.Value).Set"], unfollowed := true, recurses := true, named := ["errors.errorType"], apart := false, laid := [("errors.errorType", laid_errors_errorType)], narrowed := true }
def RpcRefusesUptoSaid : Prop := rpcRefusesUptoRow.holds Tryd.pinned (OpenSpec.upto rpcRefusesSpec)

/-- 'undercroftlaw17.RpcWrites', WHERE WHAT IT READS IS OF BULK AT MOST 1048576: true; the input reads as it did. -/
def rpcWritesUptoRow : OpenClaim := { program := "ytpecmkkcepnpeaadoor", sum := "94d22238d93670e0bb5d3ccaed1cbed10ec9282babc644feeb9dde0c3bc00654", func := "undercroft/undercroftlaw17.RpcWrites", spec := "rpcWrites", inPlace := ["internal/reflectlite.ValueOf", "(internal/reflectlite.Value).Type", "(internal/reflectlite.Value).IsNil", "internal/reflectlite.TypeOf", "(internal/reflectlite.Value).Elem", "(internal/reflectlite.Value).Set"], unfollowed := true, recurses := true, named := ["errors.errorType"], apart := false, laid := [("errors.errorType", laid_errors_errorType)], narrowed := true }
def RpcWritesUptoSaid : Prop := rpcWritesUptoRow.holds Tryd.pinned (OpenSpec.upto rpcWritesSpec)

/-- 'undercroftlaw17.RpcBack', WHERE WHAT IT READS IS OF BULK AT MOST 1048576: true; the input reads as it did. -/
def rpcBackUptoRow : OpenClaim := { program := "ytpecmkkcepnpeaadoor", sum := "94d22238d93670e0bb5d3ccaed1cbed10ec9282babc644feeb9dde0c3bc00654", func := "undercroft/undercroftlaw17.RpcBack", spec := "rpcBack", inPlace := ["internal/reflectlite.ValueOf", "(internal/reflectlite.Value).Type", "(internal/reflectlite.Value).IsNil", "internal/reflectlite.TypeOf", "(internal/reflectlite.Value).Elem", "(internal/reflectlite.Value).Set"], unfollowed := true, recurses := true, named := ["errors.errorType"], apart := false, laid := [("errors.errorType", laid_errors_errorType)], narrowed := true }
def RpcBackUptoSaid : Prop := rpcBackUptoRow.holds Tryd.pinned (OpenSpec.upto rpcBackSpec)

/-- 'undercroftlaw17.RpcCalls', WHERE WHAT IT READS IS OF BULK AT MOST 1048576: true; the input reads as it did. -/
def rpcCallsUptoRow : OpenClaim := { program := "ytpecmkkcepnpeaadoor", sum := "94d22238d93670e0bb5d3ccaed1cbed10ec9282babc644feeb9dde0c3bc00654", func := "undercroft/undercroftlaw17.RpcCalls", spec := "rpcCalls", inPlace := ["internal/reflectlite.ValueOf", "(internal/reflectlite.Value).Type", "(internal/reflectlite.Value).IsNil", "internal/reflectlite.TypeOf", "(internal/reflectlite.Value).Elem", "(internal/reflectlite.Value).Set"], unfollowed := true, recurses := true, named := ["errors.errorType"], apart := false, laid := [("errors.errorType", laid_errors_errorType)], narrowed := true }
def RpcCallsUptoSaid : Prop := rpcCallsUptoRow.holds Tryd.pinned (OpenSpec.upto rpcCallsSpec)

/-- 'undercroftlaw17.RpcTurns', WHERE WHAT IT READS IS OF BULK AT MOST 1048576: true; the input reads as it did. -/
def rpcTurnsUptoRow : OpenClaim := { program := "ytpecmkkcepnpeaadoor", sum := "94d22238d93670e0bb5d3ccaed1cbed10ec9282babc644feeb9dde0c3bc00654", func := "undercroft/undercroftlaw17.RpcTurns", spec := "rpcTurns", inPlace := ["internal/reflectlite.ValueOf", "(internal/reflectlite.Value).Type", "(internal/reflectlite.Value).IsNil", "internal/reflectlite.TypeOf", "(internal/reflectlite.Value).Elem", "(internal/reflectlite.Value).Set"], unfollowed := true, recurses := true, named := ["errors.errorType"], apart := false, laid := [("errors.errorType", laid_errors_errorType)], narrowed := true }
def RpcTurnsUptoSaid : Prop := rpcTurnsUptoRow.holds Tryd.pinned (OpenSpec.upto rpcTurnsSpec)

end Rows
end Go.Proofs.YtpecmkkcepnpeaaDoor
