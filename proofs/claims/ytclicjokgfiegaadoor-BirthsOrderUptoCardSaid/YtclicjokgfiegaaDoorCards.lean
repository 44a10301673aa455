/-
  DERIVED. GIVEN WITH THE SEED: THE CARDS: each row of YtclicjokgfiegaaDoorRows.lean that lists a variable, with what it lists TIED to the program's text (the seventh form; the later family's looks); each row that meets fmt, with fmt's text TOLD by the authors' own Lean function (tested against real Go, not proved from fmt's source: count such statements apart). THE CARD IS WHAT COUNTS. Prove the row's statement (the work); the ties are given (YtclicjokgfiegaaDoorTie.lean); close each card by the builder's one call (the guide's Derived/Test/ToyasCard.lean, 'card_holds'). Laid BY PROGRAM, IN A SANDBOX (cutbox-door.mjs). By AI agents, Wed Nov 11 2026. No macro, syntax, notation, axiom, sorry.
-/
import Derived.Test.YtclicjokgfiegaaDoorRows
import GoSem.ClaimSeven
namespace Go.Proofs.YtclicjokgfiegaaDoor
namespace Rows

/-- THE TIED CARD OF 'crierlaw16.PacketPuts'. -/
def packetPutsCard : Claim7 := { stood := { row := packetPutsRow, standIns := [], harness := (true, "17932e26ff6ccdb4ee14b823468fc902ef8ea1d529660f915ac652b1397bd182"), looks := false }, kinds := [], alts := [], laidByText := true, laidKinds := [.data, .data, .pinned], laidTests := true, laidLooks := .later }
def PacketPutsCardSaid : Prop := Claim7.holds Tryd.pinned (.plain (OpenSpec.ofChange packetPutsSpec)) packetPutsCard

/-- THE TIED CARD OF 'crierlaw16.PacketSame'. -/
def packetSameCard : Claim7 := { stood := { row := packetSameRow, standIns := [], harness := (true, "17932e26ff6ccdb4ee14b823468fc902ef8ea1d529660f915ac652b1397bd182"), looks := false }, kinds := [], alts := [], laidByText := true, laidKinds := [.data, .data, .pinned], laidTests := true, laidLooks := .later }
def PacketSameCardSaid : Prop := Claim7.holds Tryd.pinned (.plain (OpenSpec.ofChange packetSameSpec)) packetSameCard

/-- THE TIED CARD OF 'crierlaw36.BirthsLast'. -/
def birthsLastCard : Claim7 := { stood := { row := birthsLastRow, standIns := [], harness := (true, "17932e26ff6ccdb4ee14b823468fc902ef8ea1d529660f915ac652b1397bd182"), looks := false }, kinds := [], alts := [], laidByText := true, laidKinds := [.data, .data, .pinned], laidTests := true, laidLooks := .later }
def BirthsLastCardSaid : Prop := Claim7.holds Tryd.pinned (.plain (OpenSpec.ofChange birthsLastSpec)) birthsLastCard

/-- THE TIED CARD OF 'crierlaw36.BirthsOrder'. -/
def birthsOrderCard : Claim7 := { stood := { row := birthsOrderRow, standIns := [], harness := (true, "17932e26ff6ccdb4ee14b823468fc902ef8ea1d529660f915ac652b1397bd182"), looks := false }, kinds := [], alts := [], laidByText := true, laidKinds := [.data, .data, .pinned], laidTests := true, laidLooks := .later }
def BirthsOrderCardSaid : Prop := Claim7.holds Tryd.pinned (.plain (OpenSpec.ofChange birthsOrderSpec)) birthsOrderCard

/-- THE TIED CARD OF 'crierlaw36.BirthsZero'. -/
def birthsZeroCard : Claim7 := { stood := { row := birthsZeroRow, standIns := [], harness := (true, "17932e26ff6ccdb4ee14b823468fc902ef8ea1d529660f915ac652b1397bd182"), looks := false }, kinds := [], alts := [], laidByText := true, laidKinds := [.data, .data, .pinned], laidTests := true, laidLooks := .later }
def BirthsZeroCardSaid : Prop := Claim7.holds Tryd.pinned (.plain (OpenSpec.ofChange birthsZeroSpec)) birthsZeroCard

/-- THE TIED CARD OF 'crierlaw16.PacketReads'. -/
def packetReadsCard : Claim7 := { stood := { row := packetReadsRow, standIns := [], harness := (true, "17932e26ff6ccdb4ee14b823468fc902ef8ea1d529660f915ac652b1397bd182"), looks := false }, kinds := [], alts := [], laidByText := true, laidKinds := [.data, .data, .pinned], laidTests := true, laidLooks := .later }
def PacketReadsCardSaid : Prop := Claim7.holds Tryd.pinned (.plain (OpenSpec.ofChange packetReadsSpec)) packetReadsCard

/-- THE TIED CARD OF 'crierlaw16.PacketBack'. -/
def packetBackCard : Claim7 := { stood := { row := packetBackRow, standIns := [], harness := (true, "17932e26ff6ccdb4ee14b823468fc902ef8ea1d529660f915ac652b1397bd182"), looks := false }, kinds := [], alts := [], laidByText := true, laidKinds := [.data, .data, .pinned], laidTests := true, laidLooks := .later }
def PacketBackCardSaid : Prop := Claim7.holds Tryd.pinned (.plain (OpenSpec.ofChange packetBackSpec)) packetBackCard

/-- THE SECOND FORM's CARD OF 'crierlaw16.PacketPuts'. -/
def packetPutsUptoCard : Claim7 := { stood := { row := packetPutsUptoRow, standIns := [], harness := (true, "17932e26ff6ccdb4ee14b823468fc902ef8ea1d529660f915ac652b1397bd182"), looks := false }, kinds := [], alts := [], laidByText := true, laidKinds := [.data, .data, .pinned], laidTests := true, laidLooks := .later }
def PacketPutsUptoCardSaid : Prop := Claim7.holds Tryd.pinned (.plain (OpenSpec.upto packetPutsSpec)) packetPutsUptoCard

/-- THE SECOND FORM's CARD OF 'crierlaw16.PacketSame'. -/
def packetSameUptoCard : Claim7 := { stood := { row := packetSameUptoRow, standIns := [], harness := (true, "17932e26ff6ccdb4ee14b823468fc902ef8ea1d529660f915ac652b1397bd182"), looks := false }, kinds := [], alts := [], laidByText := true, laidKinds := [.data, .data, .pinned], laidTests := true, laidLooks := .later }
def PacketSameUptoCardSaid : Prop := Claim7.holds Tryd.pinned (.plain (OpenSpec.upto packetSameSpec)) packetSameUptoCard

/-- THE SECOND FORM's CARD OF 'crierlaw36.BirthsLast'. -/
def birthsLastUptoCard : Claim7 := { stood := { row := birthsLastUptoRow, standIns := [], harness := (true, "17932e26ff6ccdb4ee14b823468fc902ef8ea1d529660f915ac652b1397bd182"), looks := false }, kinds := [], alts := [], laidByText := true, laidKinds := [.data, .data, .pinned], laidTests := true, laidLooks := .later }
def BirthsLastUptoCardSaid : Prop := Claim7.holds Tryd.pinned (.plain (OpenSpec.upto birthsLastSpec)) birthsLastUptoCard

/-- THE SECOND FORM's CARD OF 'crierlaw36.BirthsOrder'. -/
def birthsOrderUptoCard : Claim7 := { stood := { row := birthsOrderUptoRow, standIns := [], harness := (true, "17932e26ff6ccdb4ee14b823468fc902ef8ea1d529660f915ac652b1397bd182"), looks := false }, kinds := [], alts := [], laidByText := true, laidKinds := [.data, .data, .pinned], laidTests := true, laidLooks := .later }
def BirthsOrderUptoCardSaid : Prop := Claim7.holds Tryd.pinned (.plain (OpenSpec.upto birthsOrderSpec)) birthsOrderUptoCard

/-- THE SECOND FORM's CARD OF 'crierlaw36.BirthsZero'. -/
def birthsZeroUptoCard : Claim7 := { stood := { row := birthsZeroUptoRow, standIns := [], harness := (true, "17932e26ff6ccdb4ee14b823468fc902ef8ea1d529660f915ac652b1397bd182"), looks := false }, kinds := [], alts := [], laidByText := true, laidKinds := [.data, .data, .pinned], laidTests := true, laidLooks := .later }
def BirthsZeroUptoCardSaid : Prop := Claim7.holds Tryd.pinned (.plain (OpenSpec.upto birthsZeroSpec)) birthsZeroUptoCard

/-- THE SECOND FORM's CARD OF 'crierlaw16.PacketReads'. -/
def packetReadsUptoCard : Claim7 := { stood := { row := packetReadsUptoRow, standIns := [], harness := (true, "17932e26ff6ccdb4ee14b823468fc902ef8ea1d529660f915ac652b1397bd182"), looks := false }, kinds := [], alts := [], laidByText := true, laidKinds := [.data, .data, .pinned], laidTests := true, laidLooks := .later }
def PacketReadsUptoCardSaid : Prop := Claim7.holds Tryd.pinned (.plain (OpenSpec.upto packetReadsSpec)) packetReadsUptoCard

/-- THE SECOND FORM's CARD OF 'crierlaw16.PacketBack'. -/
def packetBackUptoCard : Claim7 := { stood := { row := packetBackUptoRow, standIns := [], harness := (true, "17932e26ff6ccdb4ee14b823468fc902ef8ea1d529660f915ac652b1397bd182"), looks := false }, kinds := [], alts := [], laidByText := true, laidKinds := [.data, .data, .pinned], laidTests := true, laidLooks := .later }
def PacketBackUptoCardSaid : Prop := Claim7.holds Tryd.pinned (.plain (OpenSpec.upto packetBackSpec)) packetBackUptoCard
end Rows
end Go.Proofs.YtclicjokgfiegaaDoor
