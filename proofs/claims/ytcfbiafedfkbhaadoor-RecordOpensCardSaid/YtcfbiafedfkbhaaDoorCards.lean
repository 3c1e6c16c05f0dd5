/-
  DERIVED. GIVEN WITH THE SEED: THE CARDS: each row of YtcfbiafedfkbhaaDoorRows.lean that lists a variable, with what it lists TIED to the program's text (the seventh form; the later family's looks); each row that meets fmt, with fmt's text TOLD by the authors' own Lean function (tested against real Go, not proved from fmt's source: count such statements apart). THE CARD IS WHAT COUNTS. Prove the row's statement (the work); the ties are given (YtcfbiafedfkbhaaDoorTie.lean); close each card by the builder's one call (the guide's Derived/Test/ToyasCard.lean, 'card_holds'). Laid BY PROGRAM, IN A SANDBOX (cutbox-door.mjs). By AI agents, Wed Nov 11 2026. No macro, syntax, notation, axiom, sorry.
-/
import Derived.Test.YtcfbiafedfkbhaaDoorRows
import GoSem.ClaimSeven
namespace Go.Proofs.YtcfbiafedfkbhaaDoor
namespace Rows

/-- THE TIED CARD OF 'tollgatelaw12.RecordLong'. -/
def recordLongCard : Claim7 := { stood := { row := recordLongRow, standIns := [], harness := (true, "6170c4ac46540b0d71fe4db76ee0887876e5539939b21a415506b2e0140bd326"), looks := false }, kinds := [], alts := [], laidByText := true, laidKinds := [.data, .data, .data, .pinned], laidTests := true, laidLooks := .later }
def RecordLongCardSaid : Prop := Claim7.holds Tryd.pinned (.plain (OpenSpec.ofChange recordLongSpec)) recordLongCard

/-- THE TIED CARD OF 'tollgatelaw12.RecordSeals'. -/
def recordSealsCard : Claim7 := { stood := { row := recordSealsRow, standIns := [], harness := (true, "6170c4ac46540b0d71fe4db76ee0887876e5539939b21a415506b2e0140bd326"), looks := false }, kinds := [], alts := [], laidByText := true, laidKinds := [.data, .data, .data, .pinned], laidTests := true, laidLooks := .later }
def RecordSealsCardSaid : Prop := Claim7.holds Tryd.pinned (.plain (OpenSpec.ofChange recordSealsSpec)) recordSealsCard

/-- THE TIED CARD OF 'tollgatelaw12.RecordOpens'. -/
def recordOpensCard : Claim7 := { stood := { row := recordOpensRow, standIns := [], harness := (true, "6170c4ac46540b0d71fe4db76ee0887876e5539939b21a415506b2e0140bd326"), looks := false }, kinds := [], alts := [], laidByText := true, laidKinds := [.data, .data, .data, .pinned], laidTests := true, laidLooks := .later }
def RecordOpensCardSaid : Prop := Claim7.holds Tryd.pinned (.plain (OpenSpec.ofChange recordOpensSpec)) recordOpensCard

/-- THE TIED CARD OF 'tollgatelaw12.RecordPads'. -/
def recordPadsCard : Claim7 := { stood := { row := recordPadsRow, standIns := [], harness := (true, "6170c4ac46540b0d71fe4db76ee0887876e5539939b21a415506b2e0140bd326"), looks := false }, kinds := [], alts := [], laidByText := true, laidKinds := [.data, .data, .data, .pinned], laidTests := true, laidLooks := .later }
def RecordPadsCardSaid : Prop := Claim7.holds Tryd.pinned (.plain (OpenSpec.ofChange recordPadsSpec)) recordPadsCard

/-- THE TIED CARD OF 'tollgatelaw12.RecordBares'. -/
def recordBaresCard : Claim7 := { stood := { row := recordBaresRow, standIns := [], harness := (true, "6170c4ac46540b0d71fe4db76ee0887876e5539939b21a415506b2e0140bd326"), looks := false }, kinds := [], alts := [], laidByText := true, laidKinds := [.data, .data, .data, .pinned], laidTests := true, laidLooks := .later }
def RecordBaresCardSaid : Prop := Claim7.holds Tryd.pinned (.plain (OpenSpec.ofChange recordBaresSpec)) recordBaresCard

/-- THE SECOND FORM's CARD OF 'tollgatelaw12.RecordLong'. -/
def recordLongUptoCard : Claim7 := { stood := { row := recordLongUptoRow, standIns := [], harness := (true, "6170c4ac46540b0d71fe4db76ee0887876e5539939b21a415506b2e0140bd326"), looks := false }, kinds := [], alts := [], laidByText := true, laidKinds := [.data, .data, .data, .pinned], laidTests := true, laidLooks := .later }
def RecordLongUptoCardSaid : Prop := Claim7.holds Tryd.pinned (.plain (OpenSpec.upto recordLongSpec)) recordLongUptoCard

/-- THE SECOND FORM's CARD OF 'tollgatelaw12.RecordSeals'. -/
def recordSealsUptoCard : Claim7 := { stood := { row := recordSealsUptoRow, standIns := [], harness := (true, "6170c4ac46540b0d71fe4db76ee0887876e5539939b21a415506b2e0140bd326"), looks := false }, kinds := [], alts := [], laidByText := true, laidKinds := [.data, .data, .data, .pinned], laidTests := true, laidLooks := .later }
def RecordSealsUptoCardSaid : Prop := Claim7.holds Tryd.pinned (.plain (OpenSpec.upto recordSealsSpec)) recordSealsUptoCard

/-- THE SECOND FORM's CARD OF 'tollgatelaw12.RecordOpens'. -/
def recordOpensUptoCard : Claim7 := { stood := { row := recordOpensUptoRow, standIns := [], harness := (true, "6170c4ac46540b0d71fe4db76ee0887876e5539939b21a415506b2e0140bd326"), looks := false }, kinds := [], alts := [], laidByText := true, laidKinds := [.data, .data, .data, .pinned], laidTests := true, laidLooks := .later }
def RecordOpensUptoCardSaid : Prop := Claim7.holds Tryd.pinned (.plain (OpenSpec.upto recordOpensSpec)) recordOpensUptoCard

/-- THE SECOND FORM's CARD OF 'tollgatelaw12.RecordPads'. -/
def recordPadsUptoCard : Claim7 := { stood := { row := recordPadsUptoRow, standIns := [], harness := (true, "6170c4ac46540b0d71fe4db76ee0887876e5539939b21a415506b2e0140bd326"), looks := false }, kinds := [], alts := [], laidByText := true, laidKinds := [.data, .data, .data, .pinned], laidTests := true, laidLooks := .later }
def RecordPadsUptoCardSaid : Prop := Claim7.holds Tryd.pinned (.plain (OpenSpec.upto recordPadsSpec)) recordPadsUptoCard

/-- THE SECOND FORM's CARD OF 'tollgatelaw12.RecordBares'. -/
def recordBaresUptoCard : Claim7 := { stood := { row := recordBaresUptoRow, standIns := [], harness := (true, "6170c4ac46540b0d71fe4db76ee0887876e5539939b21a415506b2e0140bd326"), looks := false }, kinds := [], alts := [], laidByText := true, laidKinds := [.data, .data, .data, .pinned], laidTests := true, laidLooks := .later }
def RecordBaresUptoCardSaid : Prop := Claim7.holds Tryd.pinned (.plain (OpenSpec.upto recordBaresSpec)) recordBaresUptoCard
end Rows
end Go.Proofs.YtcfbiafedfkbhaaDoor
