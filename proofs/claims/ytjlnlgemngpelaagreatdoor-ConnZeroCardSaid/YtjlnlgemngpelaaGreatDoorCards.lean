/-
  DERIVED. GIVEN WITH THE SEED: THE CARDS: each row of YtjlnlgemngpelaaGreatDoorRows.lean that lists a variable, with what it lists TIED to the program's text (the seventh form; the later family's looks); each row that meets fmt, with fmt's text TOLD by the authors' own Lean function (tested against real Go, not proved from fmt's source: count such statements apart). THE CARD IS WHAT COUNTS. Prove the row's statement (the work); the ties are given (YtjlnlgemngpelaaGreatDoorTie.lean); close each card by the builder's one call (the guide's Derived/Test/ToyasCard.lean, 'card_holds'). Laid BY PROGRAM, IN A SANDBOX (cutbox-door.mjs). By AI agents, Wed Nov 11 2026. No macro, syntax, notation, axiom, sorry.
-/
import Derived.Test.YtjlnlgemngpelaaGreatDoorRows
import GoSem.ClaimSeven
namespace Go.Proofs.YtjlnlgemngpelaaGreatDoor
namespace Rows

/-- THE TIED CARD OF 'crierlaw38.ConnReads'. -/
def connReadsCard : Claim7 := { stood := { row := connReadsRow, standIns := [], harness := (true, "a01133e74455261193ae228a3e919a553576a10d9e02a3d755bc24244dcee178"), looks := true }, kinds := [], alts := [], laidByText := true, laidKinds := [.data, .data, .handle, .pinned], laidTests := true, laidLooks := .later }
def ConnReadsCardSaid : Prop := Claim7.holds Tryz.pinned (.plain (OpenSpec.ofChange connReadsSpec)) connReadsCard

/-- THE TIED CARD OF 'crierlaw38.ConnChunks'. -/
def connChunksCard : Claim7 := { stood := { row := connChunksRow, standIns := [], harness := (true, "a01133e74455261193ae228a3e919a553576a10d9e02a3d755bc24244dcee178"), looks := true }, kinds := [], alts := [], laidByText := true, laidKinds := [.data, .data, .handle, .pinned], laidTests := true, laidLooks := .later }
def ConnChunksCardSaid : Prop := Claim7.holds Tryz.pinned (.plain (OpenSpec.ofChange connChunksSpec)) connChunksCard

/-- THE TIED CARD OF 'crierlaw38.ConnWho'. -/
def connWhoCard : Claim7 := { stood := { row := connWhoRow, standIns := [], harness := (true, "a01133e74455261193ae228a3e919a553576a10d9e02a3d755bc24244dcee178"), looks := true }, kinds := [], alts := [], laidByText := true, laidKinds := [.data, .data, .handle, .pinned], laidTests := true, laidLooks := .later }
def ConnWhoCardSaid : Prop := Claim7.holds Tryz.pinned (.plain (OpenSpec.ofChange connWhoSpec)) connWhoCard

/-- THE TIED CARD OF 'crierlaw38.ConnOut'. -/
def connOutCard : Claim7 := { stood := { row := connOutRow, standIns := [], harness := (true, "a01133e74455261193ae228a3e919a553576a10d9e02a3d755bc24244dcee178"), looks := true }, kinds := [], alts := [], laidByText := true, laidKinds := [.data, .data, .handle, .pinned], laidTests := true, laidLooks := .later }
def ConnOutCardSaid : Prop := Claim7.holds Tryz.pinned (.plain (OpenSpec.ofChange connOutSpec)) connOutCard

/-- THE TIED CARD OF 'crierlaw38.ConnZero'. -/
def connZeroCard : Claim7 := { stood := { row := connZeroRow, standIns := [], harness := (true, "a01133e74455261193ae228a3e919a553576a10d9e02a3d755bc24244dcee178"), looks := true }, kinds := [], alts := [], laidByText := true, laidKinds := [.data, .data, .handle, .pinned], laidTests := true, laidLooks := .later }
def ConnZeroCardSaid : Prop := Claim7.holds Tryz.pinned (.plain (OpenSpec.ofChange connZeroSpec)) connZeroCard

/-- THE SECOND FORM's CARD OF 'crierlaw38.ConnReads'. -/
def connReadsUptoCard : Claim7 := { stood := { row := connReadsUptoRow, standIns := [], harness := (true, "a01133e74455261193ae228a3e919a553576a10d9e02a3d755bc24244dcee178"), looks := true }, kinds := [], alts := [], laidByText := true, laidKinds := [.data, .data, .handle, .pinned], laidTests := true, laidLooks := .later }
def ConnReadsUptoCardSaid : Prop := Claim7.holds Tryz.pinned (.plain (OpenSpec.upto connReadsSpec)) connReadsUptoCard

/-- THE SECOND FORM's CARD OF 'crierlaw38.ConnChunks'. -/
def connChunksUptoCard : Claim7 := { stood := { row := connChunksUptoRow, standIns := [], harness := (true, "a01133e74455261193ae228a3e919a553576a10d9e02a3d755bc24244dcee178"), looks := true }, kinds := [], alts := [], laidByText := true, laidKinds := [.data, .data, .handle, .pinned], laidTests := true, laidLooks := .later }
def ConnChunksUptoCardSaid : Prop := Claim7.holds Tryz.pinned (.plain (OpenSpec.upto connChunksSpec)) connChunksUptoCard

/-- THE SECOND FORM's CARD OF 'crierlaw38.ConnWho'. -/
def connWhoUptoCard : Claim7 := { stood := { row := connWhoUptoRow, standIns := [], harness := (true, "a01133e74455261193ae228a3e919a553576a10d9e02a3d755bc24244dcee178"), looks := true }, kinds := [], alts := [], laidByText := true, laidKinds := [.data, .data, .handle, .pinned], laidTests := true, laidLooks := .later }
def ConnWhoUptoCardSaid : Prop := Claim7.holds Tryz.pinned (.plain (OpenSpec.upto connWhoSpec)) connWhoUptoCard

/-- THE SECOND FORM's CARD OF 'crierlaw38.ConnOut'. -/
def connOutUptoCard : Claim7 := { stood := { row := connOutUptoRow, standIns := [], harness := (true, "a01133e74455261193ae228a3e919a553576a10d9e02a3d755bc24244dcee178"), looks := true }, kinds := [], alts := [], laidByText := true, laidKinds := [.data, .data, .handle, .pinned], laidTests := true, laidLooks := .later }
def ConnOutUptoCardSaid : Prop := Claim7.holds Tryz.pinned (.plain (OpenSpec.upto connOutSpec)) connOutUptoCard

/-- THE SECOND FORM's CARD OF 'crierlaw38.ConnZero'. -/
def connZeroUptoCard : Claim7 := { stood := { row := connZeroUptoRow, standIns := [], harness := (true, "a01133e74455261193ae228a3e919a553576a10d9e02a3d755bc24244dcee178"), looks := true }, kinds := [], alts := [], laidByText := true, laidKinds := [.data, .data, .handle, .pinned], laidTests := true, laidLooks := .later }
def ConnZeroUptoCardSaid : Prop := Claim7.holds Tryz.pinned (.plain (OpenSpec.upto connZeroSpec)) connZeroUptoCard
end Rows
end Go.Proofs.YtjlnlgemngpelaaGreatDoor
