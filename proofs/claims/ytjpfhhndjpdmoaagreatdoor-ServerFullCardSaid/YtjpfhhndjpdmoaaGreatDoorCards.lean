/-
  DERIVED. GIVEN WITH THE SEED: THE CARDS: each row of YtjpfhhndjpdmoaaGreatDoorRows.lean that lists a variable, with what it lists TIED to the program's text (the seventh form; the later family's looks); each row that meets fmt, with fmt's text TOLD by the authors' own Lean function (tested against real Go, not proved from fmt's source: count such statements apart). THE CARD IS WHAT COUNTS. Prove the row's statement (the work); the ties are given (YtjpfhhndjpdmoaaGreatDoorTie.lean); close each card by the builder's one call (the guide's Derived/Test/ToyasCard.lean, 'card_holds'). Laid BY PROGRAM, IN A SANDBOX (cutbox-door.mjs). By AI agents, Wed Nov 11 2026. No macro, syntax, notation, axiom, sorry.
-/
import Derived.Test.YtjpfhhndjpdmoaaGreatDoorRows
import GoSem.ClaimSeven
namespace Go.Proofs.YtjpfhhndjpdmoaaGreatDoor
namespace Rows

/-- THE TIED CARD OF 'tollgatelaw21.PeerNames'. -/
def peerNamesCard : Claim7 := { stood := { row := peerNamesRow, standIns := [], harness := (true, "f473d7468291df45032f843dd98d00c8cc31e1cbd70877643ebb9758bdff1d30"), looks := true }, kinds := [], alts := [], laidByText := true, laidKinds := [.data, .data, .data, .wider, .data, .wider, .wider, .data, .handle, .pinned], laidTests := true, laidLooks := .later }
def PeerNamesCardSaid : Prop := Claim7.holds Tryz.pinned (.plain (OpenSpec.ofChange peerNamesSpec)) peerNamesCard

/-- THE TIED CARD OF 'tollgatelaw21.PeerNaks'. -/
def peerNaksCard : Claim7 := { stood := { row := peerNaksRow, standIns := [], harness := (true, "f473d7468291df45032f843dd98d00c8cc31e1cbd70877643ebb9758bdff1d30"), looks := true }, kinds := [], alts := [], laidByText := true, laidKinds := [.data, .data, .data, .wider, .data, .wider, .wider, .data, .handle, .pinned], laidTests := true, laidLooks := .later }
def PeerNaksCardSaid : Prop := Claim7.holds Tryz.pinned (.plain (OpenSpec.ofChange peerNaksSpec)) peerNaksCard

/-- THE TIED CARD OF 'tollgatelaw21.PeerWaits'. -/
def peerWaitsCard : Claim7 := { stood := { row := peerWaitsRow, standIns := [], harness := (true, "f473d7468291df45032f843dd98d00c8cc31e1cbd70877643ebb9758bdff1d30"), looks := true }, kinds := [], alts := [], laidByText := true, laidKinds := [.data, .data, .data, .wider, .data, .wider, .wider, .data, .handle, .pinned], laidTests := true, laidLooks := .later }
def PeerWaitsCardSaid : Prop := Claim7.holds Tryz.pinned (.plain (OpenSpec.ofChange peerWaitsSpec)) peerWaitsCard

/-- THE TIED CARD OF 'tollgatelaw21.PeerEnds'. -/
def peerEndsCard : Claim7 := { stood := { row := peerEndsRow, standIns := [], harness := (true, "f473d7468291df45032f843dd98d00c8cc31e1cbd70877643ebb9758bdff1d30"), looks := true }, kinds := [], alts := [], laidByText := true, laidKinds := [.data, .data, .data, .wider, .data, .wider, .wider, .data, .handle, .pinned], laidTests := true, laidLooks := .later }
def PeerEndsCardSaid : Prop := Claim7.holds Tryz.pinned (.plain (OpenSpec.ofChange peerEndsSpec)) peerEndsCard

/-- THE TIED CARD OF 'tollgatelaw23.ServerAgain'. -/
def serverAgainCard : Claim7 := { stood := { row := serverAgainRow, standIns := [], harness := (true, "f473d7468291df45032f843dd98d00c8cc31e1cbd70877643ebb9758bdff1d30"), looks := true }, kinds := [], alts := [], laidByText := true, laidKinds := [.data, .data, .data, .wider, .data, .wider, .wider, .data, .handle, .data, .data, .pinned], laidTests := true, laidLooks := .later }
def ServerAgainCardSaid : Prop := Claim7.holds Tryz.pinned (.plain (OpenSpec.ofChange serverAgainSpec)) serverAgainCard

/-- THE TIED CARD OF 'tollgatelaw23.ServerNaks'. -/
def serverNaksCard : Claim7 := { stood := { row := serverNaksRow, standIns := [], harness := (true, "f473d7468291df45032f843dd98d00c8cc31e1cbd70877643ebb9758bdff1d30"), looks := true }, kinds := [], alts := [], laidByText := true, laidKinds := [.data, .data, .data, .wider, .data, .wider, .wider, .data, .handle, .data, .data, .pinned], laidTests := true, laidLooks := .later }
def ServerNaksCardSaid : Prop := Claim7.holds Tryz.pinned (.plain (OpenSpec.ofChange serverNaksSpec)) serverNaksCard

/-- THE TIED CARD OF 'tollgatelaw23.ServerFull'. -/
def serverFullCard : Claim7 := { stood := { row := serverFullRow, standIns := [], harness := (true, "f473d7468291df45032f843dd98d00c8cc31e1cbd70877643ebb9758bdff1d30"), looks := true }, kinds := [], alts := [], laidByText := true, laidKinds := [.data, .data, .data, .wider, .data, .wider, .wider, .data, .handle, .data, .data, .pinned], laidTests := true, laidLooks := .later }
def ServerFullCardSaid : Prop := Claim7.holds Tryz.pinned (.plain (OpenSpec.ofChange serverFullSpec)) serverFullCard

/-- THE SECOND FORM's CARD OF 'tollgatelaw21.PeerNames'. -/
def peerNamesUptoCard : Claim7 := { stood := { row := peerNamesUptoRow, standIns := [], harness := (true, "f473d7468291df45032f843dd98d00c8cc31e1cbd70877643ebb9758bdff1d30"), looks := true }, kinds := [], alts := [], laidByText := true, laidKinds := [.data, .data, .data, .wider, .data, .wider, .wider, .data, .handle, .pinned], laidTests := true, laidLooks := .later }
def PeerNamesUptoCardSaid : Prop := Claim7.holds Tryz.pinned (.plain (OpenSpec.upto peerNamesSpec)) peerNamesUptoCard

/-- THE SECOND FORM's CARD OF 'tollgatelaw21.PeerNaks'. -/
def peerNaksUptoCard : Claim7 := { stood := { row := peerNaksUptoRow, standIns := [], harness := (true, "f473d7468291df45032f843dd98d00c8cc31e1cbd70877643ebb9758bdff1d30"), looks := true }, kinds := [], alts := [], laidByText := true, laidKinds := [.data, .data, .data, .wider, .data, .wider, .wider, .data, .handle, .pinned], laidTests := true, laidLooks := .later }
def PeerNaksUptoCardSaid : Prop := Claim7.holds Tryz.pinned (.plain (OpenSpec.upto peerNaksSpec)) peerNaksUptoCard

/-- THE SECOND FORM's CARD OF 'tollgatelaw21.PeerWaits'. -/
def peerWaitsUptoCard : Claim7 := { stood := { row := peerWaitsUptoRow, standIns := [], harness := (true, "f473d7468291df45032f843dd98d00c8cc31e1cbd70877643ebb9758bdff1d30"), looks := true }, kinds := [], alts := [], laidByText := true, laidKinds := [.data, .data, .data, .wider, .data, .wider, .wider, .data, .handle, .pinned], laidTests := true, laidLooks := .later }
def PeerWaitsUptoCardSaid : Prop := Claim7.holds Tryz.pinned (.plain (OpenSpec.upto peerWaitsSpec)) peerWaitsUptoCard

/-- THE SECOND FORM's CARD OF 'tollgatelaw21.PeerEnds'. -/
def peerEndsUptoCard : Claim7 := { stood := { row := peerEndsUptoRow, standIns := [], harness := (true, "f473d7468291df45032f843dd98d00c8cc31e1cbd70877643ebb9758bdff1d30"), looks := true }, kinds := [], alts := [], laidByText := true, laidKinds := [.data, .data, .data, .wider, .data, .wider, .wider, .data, .handle, .pinned], laidTests := true, laidLooks := .later }
def PeerEndsUptoCardSaid : Prop := Claim7.holds Tryz.pinned (.plain (OpenSpec.upto peerEndsSpec)) peerEndsUptoCard

/-- THE SECOND FORM's CARD OF 'tollgatelaw23.ServerAgain'. -/
def serverAgainUptoCard : Claim7 := { stood := { row := serverAgainUptoRow, standIns := [], harness := (true, "f473d7468291df45032f843dd98d00c8cc31e1cbd70877643ebb9758bdff1d30"), looks := true }, kinds := [], alts := [], laidByText := true, laidKinds := [.data, .data, .data, .wider, .data, .wider, .wider, .data, .handle, .data, .data, .pinned], laidTests := true, laidLooks := .later }
def ServerAgainUptoCardSaid : Prop := Claim7.holds Tryz.pinned (.plain (OpenSpec.upto serverAgainSpec)) serverAgainUptoCard

/-- THE SECOND FORM's CARD OF 'tollgatelaw23.ServerNaks'. -/
def serverNaksUptoCard : Claim7 := { stood := { row := serverNaksUptoRow, standIns := [], harness := (true, "f473d7468291df45032f843dd98d00c8cc31e1cbd70877643ebb9758bdff1d30"), looks := true }, kinds := [], alts := [], laidByText := true, laidKinds := [.data, .data, .data, .wider, .data, .wider, .wider, .data, .handle, .data, .data, .pinned], laidTests := true, laidLooks := .later }
def ServerNaksUptoCardSaid : Prop := Claim7.holds Tryz.pinned (.plain (OpenSpec.upto serverNaksSpec)) serverNaksUptoCard

/-- THE SECOND FORM's CARD OF 'tollgatelaw23.ServerFull'. -/
def serverFullUptoCard : Claim7 := { stood := { row := serverFullUptoRow, standIns := [], harness := (true, "f473d7468291df45032f843dd98d00c8cc31e1cbd70877643ebb9758bdff1d30"), looks := true }, kinds := [], alts := [], laidByText := true, laidKinds := [.data, .data, .data, .wider, .data, .wider, .wider, .data, .handle, .data, .data, .pinned], laidTests := true, laidLooks := .later }
def ServerFullUptoCardSaid : Prop := Claim7.holds Tryz.pinned (.plain (OpenSpec.upto serverFullSpec)) serverFullUptoCard
end Rows
end Go.Proofs.YtjpfhhndjpdmoaaGreatDoor
