/-
  DERIVED. GIVEN WITH THE SEED: THE CARDS: each row of YtclicjokgfiegaaGreatDoorRows.lean that lists a variable, with what it lists TIED to the program's text (the seventh form; the later family's looks); each row that meets fmt, with fmt's text TOLD by the authors' own Lean function (tested against real Go, not proved from fmt's source: count such statements apart). THE CARD IS WHAT COUNTS. Prove the row's statement (the work); the ties are given (YtclicjokgfiegaaGreatDoorTie.lean); close each card by the builder's one call (the guide's Derived/Test/ToyasCard.lean, 'card_holds'). Laid BY PROGRAM, IN A SANDBOX (cutbox-door.mjs). By AI agents, Wed Nov 11 2026. No macro, syntax, notation, axiom, sorry.
-/
import Derived.Test.YtclicjokgfiegaaGreatDoorRows
import GoSem.ClaimSeven
namespace Go.Proofs.YtclicjokgfiegaaGreatDoor
namespace Rows

/-- THE TIED CARD OF 'crierlaw36.BirthsPlays'. -/
def birthsPlaysCard : Claim7 := { stood := { row := birthsPlaysRow, standIns := [], harness := (true, "90493675f5faa8eba9ba8dfc67ddfb5947b95845b0360795ac76c46c9843f5f5"), looks := false }, kinds := [], alts := [], laidByText := true, laidKinds := [.data, .data, .pinned], laidTests := true, laidLooks := .later }
def BirthsPlaysCardSaid : Prop := Claim7.holds Tryz.pinned (.plain (OpenSpec.ofChange birthsPlaysSpec)) birthsPlaysCard

/-- THE TIED CARD OF 'crierlaw16.PacketAll'. -/
def packetAllCard : Claim7 := { stood := { row := packetAllRow, standIns := [], harness := (true, "90493675f5faa8eba9ba8dfc67ddfb5947b95845b0360795ac76c46c9843f5f5"), looks := false }, kinds := [], alts := [], laidByText := true, laidKinds := [.data, .data, .pinned], laidTests := true, laidLooks := .later }
def PacketAllCardSaid : Prop := Claim7.holds Tryz.pinned (.plain (OpenSpec.ofChange packetAllSpec)) packetAllCard

/-- THE SECOND FORM's CARD OF 'crierlaw36.BirthsPlays'. -/
def birthsPlaysUptoCard : Claim7 := { stood := { row := birthsPlaysUptoRow, standIns := [], harness := (true, "90493675f5faa8eba9ba8dfc67ddfb5947b95845b0360795ac76c46c9843f5f5"), looks := false }, kinds := [], alts := [], laidByText := true, laidKinds := [.data, .data, .pinned], laidTests := true, laidLooks := .later }
def BirthsPlaysUptoCardSaid : Prop := Claim7.holds Tryz.pinned (.plain (OpenSpec.upto birthsPlaysSpec)) birthsPlaysUptoCard

/-- THE SECOND FORM's CARD OF 'crierlaw16.PacketAll'. -/
def packetAllUptoCard : Claim7 := { stood := { row := packetAllUptoRow, standIns := [], harness := (true, "90493675f5faa8eba9ba8dfc67ddfb5947b95845b0360795ac76c46c9843f5f5"), looks := false }, kinds := [], alts := [], laidByText := true, laidKinds := [.data, .data, .pinned], laidTests := true, laidLooks := .later }
def PacketAllUptoCardSaid : Prop := Claim7.holds Tryz.pinned (.plain (OpenSpec.upto packetAllSpec)) packetAllUptoCard
end Rows
end Go.Proofs.YtclicjokgfiegaaGreatDoor
