/-
  DERIVED. GIVEN WITH THE SEED: THE CARDS: each row of YtklcfmmnibcobaaDoorRows.lean that lists a variable, with what it lists TIED to the program's text (the seventh form; the later family's looks); each row that meets fmt, with fmt's text TOLD by the authors' own Lean function (tested against real Go, not proved from fmt's source: count such statements apart). THE CARD IS WHAT COUNTS. Prove the row's statement (the work); the ties are given (YtklcfmmnibcobaaDoorTie.lean); close each card by the builder's one call (the guide's Derived/Test/ToyasCard.lean, 'card_holds'). Laid BY PROGRAM, IN A SANDBOX (cutbox-door.mjs). By AI agents, Wed Nov 11 2026. No macro, syntax, notation, axiom, sorry.
-/
import Derived.Test.YtklcfmmnibcobaaDoorRows
import GoSem.ClaimSeven
namespace Go.Proofs.YtklcfmmnibcobaaDoor
namespace Rows

/-- THE TIED CARD OF 'rejoinderlaw01.TextAll'. -/
def textAllCard : Claim7 := { stood := { row := textAllRow, standIns := [], harness := (true, "95faa0715630b8a0a3b0b6b87071319cec80aeb593f3fd78523ff8fcc82dfb55"), looks := true }, kinds := [], alts := [], laidByText := true, laidKinds := [.data, .data, .data, .data, .sentinel, .sentinel, .pinned], laidTests := true, laidLooks := .later }
def TextAllCardSaid : Prop := Claim7.holds Tryd.pinned (.plain (OpenSpec.ofChange textAllSpec)) textAllCard

/-- THE TIED CARD OF 'rejoinderlaw13.AddrSix'. -/
def addrSixCard : Claim7 := { stood := { row := addrSixRow, standIns := [], harness := (true, "95faa0715630b8a0a3b0b6b87071319cec80aeb593f3fd78523ff8fcc82dfb55"), looks := true }, kinds := [], alts := [], laidByText := true, laidKinds := [.data, .data, .data, .data, .sentinel, .sentinel, .pinned], laidTests := true, laidLooks := .later }
def AddrSixCardSaid : Prop := Claim7.holds Tryd.pinned (.plain (OpenSpec.ofChange addrSixSpec)) addrSixCard

/-- THE TIED CARD OF 'rejoinderlaw13.AddrPorts'. -/
def addrPortsCard : Claim7 := { stood := { row := addrPortsRow, standIns := [], harness := (true, "95faa0715630b8a0a3b0b6b87071319cec80aeb593f3fd78523ff8fcc82dfb55"), looks := true }, kinds := [], alts := [], laidByText := true, laidKinds := [.data, .data, .data, .data, .sentinel, .sentinel, .pinned], laidTests := true, laidLooks := .later }
def AddrPortsCardSaid : Prop := Claim7.holds Tryd.pinned (.plain (OpenSpec.ofChange addrPortsSpec)) addrPortsCard

/-- THE TIED CARD OF 'rejoinderlaw13.AddrBack'. -/
def addrBackCard : Claim7 := { stood := { row := addrBackRow, standIns := [], harness := (true, "95faa0715630b8a0a3b0b6b87071319cec80aeb593f3fd78523ff8fcc82dfb55"), looks := true }, kinds := [], alts := [], laidByText := true, laidKinds := [.data, .data, .data, .data, .sentinel, .sentinel, .pinned], laidTests := true, laidLooks := .later }
def AddrBackCardSaid : Prop := Claim7.holds Tryd.pinned (.plain (OpenSpec.ofChange addrBackSpec)) addrBackCard

/-- THE TIED CARD OF 'rejoinderlaw13.AddrWrites'. -/
def addrWritesCard : Claim7 := { stood := { row := addrWritesRow, standIns := [], harness := (true, "95faa0715630b8a0a3b0b6b87071319cec80aeb593f3fd78523ff8fcc82dfb55"), looks := true }, kinds := [], alts := [], laidByText := true, laidKinds := [.data, .data, .data, .data, .sentinel, .sentinel, .pinned], laidTests := true, laidLooks := .later }
def AddrWritesCardSaid : Prop := Claim7.holds Tryd.pinned (.plain (OpenSpec.ofChange addrWritesSpec)) addrWritesCard

/-- THE TIED CARD OF 'rejoinderlaw13.AddrAll'. -/
def addrAllCard : Claim7 := { stood := { row := addrAllRow, standIns := [], harness := (true, "95faa0715630b8a0a3b0b6b87071319cec80aeb593f3fd78523ff8fcc82dfb55"), looks := true }, kinds := [], alts := [], laidByText := true, laidKinds := [.data, .data, .data, .data, .sentinel, .sentinel, .pinned], laidTests := true, laidLooks := .later }
def AddrAllCardSaid : Prop := Claim7.holds Tryd.pinned (.plain (OpenSpec.ofChange addrAllSpec)) addrAllCard

/-- THE TIED CARD OF 'rejoinderlaw21.XferRefuses'. -/
def xferRefusesCard : Claim7 := { stood := { row := xferRefusesRow, standIns := [], harness := (true, "95faa0715630b8a0a3b0b6b87071319cec80aeb593f3fd78523ff8fcc82dfb55"), looks := true }, kinds := [], alts := [], laidByText := true, laidKinds := [.data, .data, .data, .data, .sentinel, .sentinel, .pinned], laidTests := true, laidLooks := .later }
def XferRefusesCardSaid : Prop := Claim7.holds Tryd.pinned (.plain (OpenSpec.ofChange xferRefusesSpec)) xferRefusesCard

/-- THE TIED CARD OF 'rejoinderlaw21.XferPuts'. -/
def xferPutsCard : Claim7 := { stood := { row := xferPutsRow, standIns := [], harness := (true, "95faa0715630b8a0a3b0b6b87071319cec80aeb593f3fd78523ff8fcc82dfb55"), looks := true }, kinds := [], alts := [], laidByText := true, laidKinds := [.data, .data, .data, .data, .sentinel, .sentinel, .pinned], laidTests := true, laidLooks := .later }
def XferPutsCardSaid : Prop := Claim7.holds Tryd.pinned (.plain (OpenSpec.ofChange xferPutsSpec)) xferPutsCard

/-- THE TIED CARD OF 'rejoinderlaw21.XferAhead'. -/
def xferAheadCard : Claim7 := { stood := { row := xferAheadRow, standIns := [], harness := (true, "95faa0715630b8a0a3b0b6b87071319cec80aeb593f3fd78523ff8fcc82dfb55"), looks := true }, kinds := [], alts := [], laidByText := true, laidKinds := [.data, .data, .data, .data, .sentinel, .sentinel, .pinned], laidTests := true, laidLooks := .later }
def XferAheadCardSaid : Prop := Claim7.holds Tryd.pinned (.plain (OpenSpec.ofChange xferAheadSpec)) xferAheadCard

/-- THE TIED CARD OF 'rejoinderlaw21.XferPlays'. -/
def xferPlaysCard : Claim7 := { stood := { row := xferPlaysRow, standIns := [], harness := (true, "95faa0715630b8a0a3b0b6b87071319cec80aeb593f3fd78523ff8fcc82dfb55"), looks := true }, kinds := [], alts := [], laidByText := true, laidKinds := [.data, .data, .data, .data, .sentinel, .sentinel, .pinned], laidTests := true, laidLooks := .later }
def XferPlaysCardSaid : Prop := Claim7.holds Tryd.pinned (.plain (OpenSpec.ofChange xferPlaysSpec)) xferPlaysCard

/-- THE TIED CARD OF 'rejoinderlaw23.LogBack'. -/
def logBackCard : Claim7 := { stood := { row := logBackRow, standIns := [], harness := (true, "95faa0715630b8a0a3b0b6b87071319cec80aeb593f3fd78523ff8fcc82dfb55"), looks := true }, kinds := [], alts := [], laidByText := true, laidKinds := [.data, .data, .data, .data, .sentinel, .sentinel, .pinned], laidTests := true, laidLooks := .later }
def LogBackCardSaid : Prop := Claim7.holds Tryd.pinned (.plain (OpenSpec.ofChange logBackSpec)) logBackCard

/-- THE TIED CARD OF 'rejoinderlaw23.LogAll'. -/
def logAllCard : Claim7 := { stood := { row := logAllRow, standIns := [], harness := (true, "95faa0715630b8a0a3b0b6b87071319cec80aeb593f3fd78523ff8fcc82dfb55"), looks := true }, kinds := [], alts := [], laidByText := true, laidKinds := [.data, .data, .data, .data, .sentinel, .sentinel, .pinned], laidTests := true, laidLooks := .later }
def LogAllCardSaid : Prop := Claim7.holds Tryd.pinned (.plain (OpenSpec.ofChange logAllSpec)) logAllCard

/-- THE SECOND FORM's CARD OF 'rejoinderlaw01.TextAll'. -/
def textAllUptoCard : Claim7 := { stood := { row := textAllUptoRow, standIns := [], harness := (true, "95faa0715630b8a0a3b0b6b87071319cec80aeb593f3fd78523ff8fcc82dfb55"), looks := true }, kinds := [], alts := [], laidByText := true, laidKinds := [.data, .data, .data, .data, .sentinel, .sentinel, .pinned], laidTests := true, laidLooks := .later }
def TextAllUptoCardSaid : Prop := Claim7.holds Tryd.pinned (.plain (OpenSpec.upto textAllSpec)) textAllUptoCard

/-- THE SECOND FORM's CARD OF 'rejoinderlaw13.AddrSix'. -/
def addrSixUptoCard : Claim7 := { stood := { row := addrSixUptoRow, standIns := [], harness := (true, "95faa0715630b8a0a3b0b6b87071319cec80aeb593f3fd78523ff8fcc82dfb55"), looks := true }, kinds := [], alts := [], laidByText := true, laidKinds := [.data, .data, .data, .data, .sentinel, .sentinel, .pinned], laidTests := true, laidLooks := .later }
def AddrSixUptoCardSaid : Prop := Claim7.holds Tryd.pinned (.plain (OpenSpec.upto addrSixSpec)) addrSixUptoCard

/-- THE SECOND FORM's CARD OF 'rejoinderlaw13.AddrPorts'. -/
def addrPortsUptoCard : Claim7 := { stood := { row := addrPortsUptoRow, standIns := [], harness := (true, "95faa0715630b8a0a3b0b6b87071319cec80aeb593f3fd78523ff8fcc82dfb55"), looks := true }, kinds := [], alts := [], laidByText := true, laidKinds := [.data, .data, .data, .data, .sentinel, .sentinel, .pinned], laidTests := true, laidLooks := .later }
def AddrPortsUptoCardSaid : Prop := Claim7.holds Tryd.pinned (.plain (OpenSpec.upto addrPortsSpec)) addrPortsUptoCard

/-- THE SECOND FORM's CARD OF 'rejoinderlaw13.AddrBack'. -/
def addrBackUptoCard : Claim7 := { stood := { row := addrBackUptoRow, standIns := [], harness := (true, "95faa0715630b8a0a3b0b6b87071319cec80aeb593f3fd78523ff8fcc82dfb55"), looks := true }, kinds := [], alts := [], laidByText := true, laidKinds := [.data, .data, .data, .data, .sentinel, .sentinel, .pinned], laidTests := true, laidLooks := .later }
def AddrBackUptoCardSaid : Prop := Claim7.holds Tryd.pinned (.plain (OpenSpec.upto addrBackSpec)) addrBackUptoCard

/-- THE SECOND FORM's CARD OF 'rejoinderlaw13.AddrWrites'. -/
def addrWritesUptoCard : Claim7 := { stood := { row := addrWritesUptoRow, standIns := [], harness := (true, "95faa0715630b8a0a3b0b6b87071319cec80aeb593f3fd78523ff8fcc82dfb55"), looks := true }, kinds := [], alts := [], laidByText := true, laidKinds := [.data, .data, .data, .data, .sentinel, .sentinel, .pinned], laidTests := true, laidLooks := .later }
def AddrWritesUptoCardSaid : Prop := Claim7.holds Tryd.pinned (.plain (OpenSpec.upto addrWritesSpec)) addrWritesUptoCard

/-- THE SECOND FORM's CARD OF 'rejoinderlaw13.AddrAll'. -/
def addrAllUptoCard : Claim7 := { stood := { row := addrAllUptoRow, standIns := [], harness := (true, "95faa0715630b8a0a3b0b6b87071319cec80aeb593f3fd78523ff8fcc82dfb55"), looks := true }, kinds := [], alts := [], laidByText := true, laidKinds := [.data, .data, .data, .data, .sentinel, .sentinel, .pinned], laidTests := true, laidLooks := .later }
def AddrAllUptoCardSaid : Prop := Claim7.holds Tryd.pinned (.plain (OpenSpec.upto addrAllSpec)) addrAllUptoCard

/-- THE SECOND FORM's CARD OF 'rejoinderlaw21.XferRefuses'. -/
def xferRefusesUptoCard : Claim7 := { stood := { row := xferRefusesUptoRow, standIns := [], harness := (true, "95faa0715630b8a0a3b0b6b87071319cec80aeb593f3fd78523ff8fcc82dfb55"), looks := true }, kinds := [], alts := [], laidByText := true, laidKinds := [.data, .data, .data, .data, .sentinel, .sentinel, .pinned], laidTests := true, laidLooks := .later }
def XferRefusesUptoCardSaid : Prop := Claim7.holds Tryd.pinned (.plain (OpenSpec.upto xferRefusesSpec)) xferRefusesUptoCard

/-- THE SECOND FORM's CARD OF 'rejoinderlaw21.XferPuts'. -/
def xferPutsUptoCard : Claim7 := { stood := { row := xferPutsUptoRow, standIns := [], harness := (true, "95faa0715630b8a0a3b0b6b87071319cec80aeb593f3fd78523ff8fcc82dfb55"), looks := true }, kinds := [], alts := [], laidByText := true, laidKinds := [.data, .data, .data, .data, .sentinel, .sentinel, .pinned], laidTests := true, laidLooks := .later }
def XferPutsUptoCardSaid : Prop := Claim7.holds Tryd.pinned (.plain (OpenSpec.upto xferPutsSpec)) xferPutsUptoCard

/-- THE SECOND FORM's CARD OF 'rejoinderlaw21.XferAhead'. -/
def xferAheadUptoCard : Claim7 := { stood := { row := xferAheadUptoRow, standIns := [], harness := (true, "95faa0715630b8a0a3b0b6b87071319cec80aeb593f3fd78523ff8fcc82dfb55"), looks := true }, kinds := [], alts := [], laidByText := true, laidKinds := [.data, .data, .data, .data, .sentinel, .sentinel, .pinned], laidTests := true, laidLooks := .later }
def XferAheadUptoCardSaid : Prop := Claim7.holds Tryd.pinned (.plain (OpenSpec.upto xferAheadSpec)) xferAheadUptoCard

/-- THE SECOND FORM's CARD OF 'rejoinderlaw21.XferPlays'. -/
def xferPlaysUptoCard : Claim7 := { stood := { row := xferPlaysUptoRow, standIns := [], harness := (true, "95faa0715630b8a0a3b0b6b87071319cec80aeb593f3fd78523ff8fcc82dfb55"), looks := true }, kinds := [], alts := [], laidByText := true, laidKinds := [.data, .data, .data, .data, .sentinel, .sentinel, .pinned], laidTests := true, laidLooks := .later }
def XferPlaysUptoCardSaid : Prop := Claim7.holds Tryd.pinned (.plain (OpenSpec.upto xferPlaysSpec)) xferPlaysUptoCard

/-- THE SECOND FORM's CARD OF 'rejoinderlaw23.LogBack'. -/
def logBackUptoCard : Claim7 := { stood := { row := logBackUptoRow, standIns := [], harness := (true, "95faa0715630b8a0a3b0b6b87071319cec80aeb593f3fd78523ff8fcc82dfb55"), looks := true }, kinds := [], alts := [], laidByText := true, laidKinds := [.data, .data, .data, .data, .sentinel, .sentinel, .pinned], laidTests := true, laidLooks := .later }
def LogBackUptoCardSaid : Prop := Claim7.holds Tryd.pinned (.plain (OpenSpec.upto logBackSpec)) logBackUptoCard

/-- THE SECOND FORM's CARD OF 'rejoinderlaw23.LogAll'. -/
def logAllUptoCard : Claim7 := { stood := { row := logAllUptoRow, standIns := [], harness := (true, "95faa0715630b8a0a3b0b6b87071319cec80aeb593f3fd78523ff8fcc82dfb55"), looks := true }, kinds := [], alts := [], laidByText := true, laidKinds := [.data, .data, .data, .data, .sentinel, .sentinel, .pinned], laidTests := true, laidLooks := .later }
def LogAllUptoCardSaid : Prop := Claim7.holds Tryd.pinned (.plain (OpenSpec.upto logAllSpec)) logAllUptoCard
end Rows
end Go.Proofs.YtklcfmmnibcobaaDoor
