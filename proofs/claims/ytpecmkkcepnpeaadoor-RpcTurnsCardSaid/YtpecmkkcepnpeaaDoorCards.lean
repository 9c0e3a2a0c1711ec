/-
  DERIVED. GIVEN WITH THE SEED: THE CARDS: each row of YtpecmkkcepnpeaaDoorRows.lean that lists a variable, with what it lists TIED to the program's text (the seventh form; the later family's looks); each row that meets fmt, with fmt's text TOLD by the authors' own Lean function (tested against real Go, not proved from fmt's source: count such statements apart). THE CARD IS WHAT COUNTS. Prove the row's statement (the work); the ties are given (YtpecmkkcepnpeaaDoorTie.lean); close each card by the builder's one call (the guide's Derived/Test/ToyasCard.lean, 'card_holds'). Laid BY PROGRAM, IN A SANDBOX (cutbox-door.mjs). By AI agents, Wed Nov 11 2026. No macro, syntax, notation, axiom, sorry.
-/
import Derived.Test.YtpecmkkcepnpeaaDoorRows
import GoSem.ClaimSeven
namespace Go.Proofs.YtpecmkkcepnpeaaDoor
namespace Rows

/-- THE TIED CARD OF 'undercroftlaw17.RpcCreds'. -/
def rpcCredsCard : Claim7 := { stood := { row := rpcCredsRow, standIns := [], harness := (true, "27f8bec1b393e9d14fb8a0a73cee8d34c79530ed32637a0f47607db901d6d671"), looks := true }, kinds := [], alts := [], laidByText := true, laidKinds := [.handle], laidTests := true, laidLooks := .later }
def RpcCredsCardSaid : Prop := Claim7.holds Tryd.pinned (.plain (OpenSpec.ofChange rpcCredsSpec)) rpcCredsCard

/-- THE TIED CARD OF 'undercroftlaw17.RpcRecords'. -/
def rpcRecordsCard : Claim7 := { stood := { row := rpcRecordsRow, standIns := [], harness := (true, "27f8bec1b393e9d14fb8a0a73cee8d34c79530ed32637a0f47607db901d6d671"), looks := true }, kinds := [], alts := [], laidByText := true, laidKinds := [.handle], laidTests := true, laidLooks := .later }
def RpcRecordsCardSaid : Prop := Claim7.holds Tryd.pinned (.plain (OpenSpec.ofChange rpcRecordsSpec)) rpcRecordsCard

/-- THE TIED CARD OF 'undercroftlaw17.RpcStreams'. -/
def rpcStreamsCard : Claim7 := { stood := { row := rpcStreamsRow, standIns := [], harness := (true, "27f8bec1b393e9d14fb8a0a73cee8d34c79530ed32637a0f47607db901d6d671"), looks := true }, kinds := [], alts := [], laidByText := true, laidKinds := [.handle], laidTests := true, laidLooks := .later }
def RpcStreamsCardSaid : Prop := Claim7.holds Tryd.pinned (.plain (OpenSpec.ofChange rpcStreamsSpec)) rpcStreamsCard

/-- THE TIED CARD OF 'undercroftlaw17.RpcLong'. -/
def rpcLongCard : Claim7 := { stood := { row := rpcLongRow, standIns := [], harness := (true, "27f8bec1b393e9d14fb8a0a73cee8d34c79530ed32637a0f47607db901d6d671"), looks := true }, kinds := [], alts := [], laidByText := true, laidKinds := [.handle], laidTests := true, laidLooks := .later }
def RpcLongCardSaid : Prop := Claim7.holds Tryd.pinned (.plain (OpenSpec.ofChange rpcLongSpec)) rpcLongCard

/-- THE TIED CARD OF 'undercroftlaw17.RpcRefuses'. -/
def rpcRefusesCard : Claim7 := { stood := { row := rpcRefusesRow, standIns := [], harness := (true, "27f8bec1b393e9d14fb8a0a73cee8d34c79530ed32637a0f47607db901d6d671"), looks := true }, kinds := [], alts := [], laidByText := true, laidKinds := [.handle], laidTests := true, laidLooks := .later }
def RpcRefusesCardSaid : Prop := Claim7.holds Tryd.pinned (.plain (OpenSpec.ofChange rpcRefusesSpec)) rpcRefusesCard

/-- THE TIED CARD OF 'undercroftlaw17.RpcWrites'. -/
def rpcWritesCard : Claim7 := { stood := { row := rpcWritesRow, standIns := [], harness := (true, "27f8bec1b393e9d14fb8a0a73cee8d34c79530ed32637a0f47607db901d6d671"), looks := true }, kinds := [], alts := [], laidByText := true, laidKinds := [.handle], laidTests := true, laidLooks := .later }
def RpcWritesCardSaid : Prop := Claim7.holds Tryd.pinned (.plain (OpenSpec.ofChange rpcWritesSpec)) rpcWritesCard

/-- THE TIED CARD OF 'undercroftlaw17.RpcBack'. -/
def rpcBackCard : Claim7 := { stood := { row := rpcBackRow, standIns := [], harness := (true, "27f8bec1b393e9d14fb8a0a73cee8d34c79530ed32637a0f47607db901d6d671"), looks := true }, kinds := [], alts := [], laidByText := true, laidKinds := [.handle], laidTests := true, laidLooks := .later }
def RpcBackCardSaid : Prop := Claim7.holds Tryd.pinned (.plain (OpenSpec.ofChange rpcBackSpec)) rpcBackCard

/-- THE TIED CARD OF 'undercroftlaw17.RpcCalls'. -/
def rpcCallsCard : Claim7 := { stood := { row := rpcCallsRow, standIns := [], harness := (true, "27f8bec1b393e9d14fb8a0a73cee8d34c79530ed32637a0f47607db901d6d671"), looks := true }, kinds := [], alts := [], laidByText := true, laidKinds := [.handle], laidTests := true, laidLooks := .later }
def RpcCallsCardSaid : Prop := Claim7.holds Tryd.pinned (.plain (OpenSpec.ofChange rpcCallsSpec)) rpcCallsCard

/-- THE TIED CARD OF 'undercroftlaw17.RpcTurns'. -/
def rpcTurnsCard : Claim7 := { stood := { row := rpcTurnsRow, standIns := [], harness := (true, "27f8bec1b393e9d14fb8a0a73cee8d34c79530ed32637a0f47607db901d6d671"), looks := true }, kinds := [], alts := [], laidByText := true, laidKinds := [.handle], laidTests := true, laidLooks := .later }
def RpcTurnsCardSaid : Prop := Claim7.holds Tryd.pinned (.plain (OpenSpec.ofChange rpcTurnsSpec)) rpcTurnsCard

/-- THE SECOND FORM's CARD OF 'undercroftlaw17.RpcCreds'. -/
def rpcCredsUptoCard : Claim7 := { stood := { row := rpcCredsUptoRow, standIns := [], harness := (true, "27f8bec1b393e9d14fb8a0a73cee8d34c79530ed32637a0f47607db901d6d671"), looks := true }, kinds := [], alts := [], laidByText := true, laidKinds := [.handle], laidTests := true, laidLooks := .later }
def RpcCredsUptoCardSaid : Prop := Claim7.holds Tryd.pinned (.plain (OpenSpec.upto rpcCredsSpec)) rpcCredsUptoCard

/-- THE SECOND FORM's CARD OF 'undercroftlaw17.RpcRecords'. -/
def rpcRecordsUptoCard : Claim7 := { stood := { row := rpcRecordsUptoRow, standIns := [], harness := (true, "27f8bec1b393e9d14fb8a0a73cee8d34c79530ed32637a0f47607db901d6d671"), looks := true }, kinds := [], alts := [], laidByText := true, laidKinds := [.handle], laidTests := true, laidLooks := .later }
def RpcRecordsUptoCardSaid : Prop := Claim7.holds Tryd.pinned (.plain (OpenSpec.upto rpcRecordsSpec)) rpcRecordsUptoCard

/-- THE SECOND FORM's CARD OF 'undercroftlaw17.RpcStreams'. -/
def rpcStreamsUptoCard : Claim7 := { stood := { row := rpcStreamsUptoRow, standIns := [], harness := (true, "27f8bec1b393e9d14fb8a0a73cee8d34c79530ed32637a0f47607db901d6d671"), looks := true }, kinds := [], alts := [], laidByText := true, laidKinds := [.handle], laidTests := true, laidLooks := .later }
def RpcStreamsUptoCardSaid : Prop := Claim7.holds Tryd.pinned (.plain (OpenSpec.upto rpcStreamsSpec)) rpcStreamsUptoCard

/-- THE SECOND FORM's CARD OF 'undercroftlaw17.RpcLong'. -/
def rpcLongUptoCard : Claim7 := { stood := { row := rpcLongUptoRow, standIns := [], harness := (true, "27f8bec1b393e9d14fb8a0a73cee8d34c79530ed32637a0f47607db901d6d671"), looks := true }, kinds := [], alts := [], laidByText := true, laidKinds := [.handle], laidTests := true, laidLooks := .later }
def RpcLongUptoCardSaid : Prop := Claim7.holds Tryd.pinned (.plain (OpenSpec.upto rpcLongSpec)) rpcLongUptoCard

/-- THE SECOND FORM's CARD OF 'undercroftlaw17.RpcRefuses'. -/
def rpcRefusesUptoCard : Claim7 := { stood := { row := rpcRefusesUptoRow, standIns := [], harness := (true, "27f8bec1b393e9d14fb8a0a73cee8d34c79530ed32637a0f47607db901d6d671"), looks := true }, kinds := [], alts := [], laidByText := true, laidKinds := [.handle], laidTests := true, laidLooks := .later }
def RpcRefusesUptoCardSaid : Prop := Claim7.holds Tryd.pinned (.plain (OpenSpec.upto rpcRefusesSpec)) rpcRefusesUptoCard

/-- THE SECOND FORM's CARD OF 'undercroftlaw17.RpcWrites'. -/
def rpcWritesUptoCard : Claim7 := { stood := { row := rpcWritesUptoRow, standIns := [], harness := (true, "27f8bec1b393e9d14fb8a0a73cee8d34c79530ed32637a0f47607db901d6d671"), looks := true }, kinds := [], alts := [], laidByText := true, laidKinds := [.handle], laidTests := true, laidLooks := .later }
def RpcWritesUptoCardSaid : Prop := Claim7.holds Tryd.pinned (.plain (OpenSpec.upto rpcWritesSpec)) rpcWritesUptoCard

/-- THE SECOND FORM's CARD OF 'undercroftlaw17.RpcBack'. -/
def rpcBackUptoCard : Claim7 := { stood := { row := rpcBackUptoRow, standIns := [], harness := (true, "27f8bec1b393e9d14fb8a0a73cee8d34c79530ed32637a0f47607db901d6d671"), looks := true }, kinds := [], alts := [], laidByText := true, laidKinds := [.handle], laidTests := true, laidLooks := .later }
def RpcBackUptoCardSaid : Prop := Claim7.holds Tryd.pinned (.plain (OpenSpec.upto rpcBackSpec)) rpcBackUptoCard

/-- THE SECOND FORM's CARD OF 'undercroftlaw17.RpcCalls'. -/
def rpcCallsUptoCard : Claim7 := { stood := { row := rpcCallsUptoRow, standIns := [], harness := (true, "27f8bec1b393e9d14fb8a0a73cee8d34c79530ed32637a0f47607db901d6d671"), looks := true }, kinds := [], alts := [], laidByText := true, laidKinds := [.handle], laidTests := true, laidLooks := .later }
def RpcCallsUptoCardSaid : Prop := Claim7.holds Tryd.pinned (.plain (OpenSpec.upto rpcCallsSpec)) rpcCallsUptoCard

/-- THE SECOND FORM's CARD OF 'undercroftlaw17.RpcTurns'. -/
def rpcTurnsUptoCard : Claim7 := { stood := { row := rpcTurnsUptoRow, standIns := [], harness := (true, "27f8bec1b393e9d14fb8a0a73cee8d34c79530ed32637a0f47607db901d6d671"), looks := true }, kinds := [], alts := [], laidByText := true, laidKinds := [.handle], laidTests := true, laidLooks := .later }
def RpcTurnsUptoCardSaid : Prop := Claim7.holds Tryd.pinned (.plain (OpenSpec.upto rpcTurnsSpec)) rpcTurnsUptoCard
end Rows
end Go.Proofs.YtpecmkkcepnpeaaDoor
