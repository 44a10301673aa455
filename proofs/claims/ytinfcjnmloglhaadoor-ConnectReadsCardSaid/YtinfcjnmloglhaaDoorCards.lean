/-
  DERIVED. GIVEN WITH THE SEED: THE CARDS: each row of YtinfcjnmloglhaaDoorRows.lean that lists a variable, with what it lists TIED to the program's text (the seventh form; the later family's looks); each row that meets fmt, with fmt's text TOLD by the authors' own Lean function (tested against real Go, not proved from fmt's source: count such statements apart). THE CARD IS WHAT COUNTS. Prove the row's statement (the work); the ties are given (YtinfcjnmloglhaaDoorTie.lean); close each card by the builder's one call (the guide's Derived/Test/ToyasCard.lean, 'card_holds'). Laid BY PROGRAM, IN A SANDBOX (cutbox-door.mjs). By AI agents, Wed Nov 11 2026. No macro, syntax, notation, axiom, sorry.
-/
import Derived.Test.YtinfcjnmloglhaaDoorRows
import GoSem.ClaimSeven
namespace Go.Proofs.YtinfcjnmloglhaaDoor
namespace Rows

/-- THE TIED CARD OF 'crierlaw04.UtfTexts'. -/
def utfTextsCard : Claim7 := { stood := { row := utfTextsRow, standIns := [], harness := (true, "99d921b434a5ab8909da275d35949c2c9ab43bff39c9e57c92a80fe3ea778f61"), looks := false }, kinds := [], alts := [], laidByText := true, laidKinds := [.data, .pinned], laidTests := true, laidLooks := .later }
def UtfTextsCardSaid : Prop := Claim7.holds Tryd.pinned (.plain (OpenSpec.ofChange utfTextsSpec)) utfTextsCard

/-- THE TIED CARD OF 'crierlaw04.UtfJoins'. -/
def utfJoinsCard : Claim7 := { stood := { row := utfJoinsRow, standIns := [], harness := (true, "99d921b434a5ab8909da275d35949c2c9ab43bff39c9e57c92a80fe3ea778f61"), looks := false }, kinds := [], alts := [], laidByText := true, laidKinds := [.data, .pinned], laidTests := true, laidLooks := .later }
def UtfJoinsCardSaid : Prop := Claim7.holds Tryd.pinned (.plain (OpenSpec.ofChange utfJoinsSpec)) utfJoinsCard

/-- THE TIED CARD OF 'crierlaw04.UtfReads'. -/
def utfReadsCard : Claim7 := { stood := { row := utfReadsRow, standIns := [], harness := (true, "99d921b434a5ab8909da275d35949c2c9ab43bff39c9e57c92a80fe3ea778f61"), looks := false }, kinds := [], alts := [], laidByText := true, laidKinds := [.data, .pinned], laidTests := true, laidLooks := .later }
def UtfReadsCardSaid : Prop := Claim7.holds Tryd.pinned (.plain (OpenSpec.ofChange utfReadsSpec)) utfReadsCard

/-- THE TIED CARD OF 'crierlaw04.UtfBack'. -/
def utfBackCard : Claim7 := { stood := { row := utfBackRow, standIns := [], harness := (true, "99d921b434a5ab8909da275d35949c2c9ab43bff39c9e57c92a80fe3ea778f61"), looks := false }, kinds := [], alts := [], laidByText := true, laidKinds := [.data, .pinned], laidTests := true, laidLooks := .later }
def UtfBackCardSaid : Prop := Claim7.holds Tryd.pinned (.plain (OpenSpec.ofChange utfBackSpec)) utfBackCard

/-- THE TIED CARD OF 'crierlaw14.PublishPuts'. -/
def publishPutsCard : Claim7 := { stood := { row := publishPutsRow, standIns := [], harness := (true, "99d921b434a5ab8909da275d35949c2c9ab43bff39c9e57c92a80fe3ea778f61"), looks := false }, kinds := [], alts := [], laidByText := true, laidKinds := [.data, .pinned], laidTests := true, laidLooks := .later }
def PublishPutsCardSaid : Prop := Claim7.holds Tryd.pinned (.plain (OpenSpec.ofChange publishPutsSpec)) publishPutsCard

/-- THE TIED CARD OF 'crierlaw13.ConnectPuts'. -/
def connectPutsCard : Claim7 := { stood := { row := connectPutsRow, standIns := [], harness := (true, "99d921b434a5ab8909da275d35949c2c9ab43bff39c9e57c92a80fe3ea778f61"), looks := false }, kinds := [], alts := [], laidByText := true, laidKinds := [.data, .pinned], laidTests := true, laidLooks := .later }
def ConnectPutsCardSaid : Prop := Claim7.holds Tryd.pinned (.plain (OpenSpec.ofChange connectPutsSpec)) connectPutsCard

/-- THE TIED CARD OF 'crierlaw14.PublishIds'. -/
def publishIdsCard : Claim7 := { stood := { row := publishIdsRow, standIns := [], harness := (true, "99d921b434a5ab8909da275d35949c2c9ab43bff39c9e57c92a80fe3ea778f61"), looks := false }, kinds := [], alts := [], laidByText := true, laidKinds := [.data, .pinned], laidTests := true, laidLooks := .later }
def PublishIdsCardSaid : Prop := Claim7.holds Tryd.pinned (.plain (OpenSpec.ofChange publishIdsSpec)) publishIdsCard

/-- THE TIED CARD OF 'crierlaw13.ConnectAcks'. -/
def connectAcksCard : Claim7 := { stood := { row := connectAcksRow, standIns := [], harness := (true, "99d921b434a5ab8909da275d35949c2c9ab43bff39c9e57c92a80fe3ea778f61"), looks := false }, kinds := [], alts := [], laidByText := true, laidKinds := [.data, .pinned], laidTests := true, laidLooks := .later }
def ConnectAcksCardSaid : Prop := Claim7.holds Tryd.pinned (.plain (OpenSpec.ofChange connectAcksSpec)) connectAcksCard

/-- THE TIED CARD OF 'crierlaw14.PublishReads'. -/
def publishReadsCard : Claim7 := { stood := { row := publishReadsRow, standIns := [], harness := (true, "99d921b434a5ab8909da275d35949c2c9ab43bff39c9e57c92a80fe3ea778f61"), looks := false }, kinds := [], alts := [], laidByText := true, laidKinds := [.data, .pinned], laidTests := true, laidLooks := .later }
def PublishReadsCardSaid : Prop := Claim7.holds Tryd.pinned (.plain (OpenSpec.ofChange publishReadsSpec)) publishReadsCard

/-- THE TIED CARD OF 'crierlaw14.PublishBack'. -/
def publishBackCard : Claim7 := { stood := { row := publishBackRow, standIns := [], harness := (true, "99d921b434a5ab8909da275d35949c2c9ab43bff39c9e57c92a80fe3ea778f61"), looks := false }, kinds := [], alts := [], laidByText := true, laidKinds := [.data, .pinned], laidTests := true, laidLooks := .later }
def PublishBackCardSaid : Prop := Claim7.holds Tryd.pinned (.plain (OpenSpec.ofChange publishBackSpec)) publishBackCard

/-- THE TIED CARD OF 'crierlaw13.ConnectReads'. -/
def connectReadsCard : Claim7 := { stood := { row := connectReadsRow, standIns := [], harness := (true, "99d921b434a5ab8909da275d35949c2c9ab43bff39c9e57c92a80fe3ea778f61"), looks := false }, kinds := [], alts := [], laidByText := true, laidKinds := [.data, .pinned], laidTests := true, laidLooks := .later }
def ConnectReadsCardSaid : Prop := Claim7.holds Tryd.pinned (.plain (OpenSpec.ofChange connectReadsSpec)) connectReadsCard

/-- THE TIED CARD OF 'crierlaw13.ConnectBack'. -/
def connectBackCard : Claim7 := { stood := { row := connectBackRow, standIns := [], harness := (true, "99d921b434a5ab8909da275d35949c2c9ab43bff39c9e57c92a80fe3ea778f61"), looks := false }, kinds := [], alts := [], laidByText := true, laidKinds := [.data, .pinned], laidTests := true, laidLooks := .later }
def ConnectBackCardSaid : Prop := Claim7.holds Tryd.pinned (.plain (OpenSpec.ofChange connectBackSpec)) connectBackCard

/-- THE SECOND FORM's CARD OF 'crierlaw04.UtfTexts'. -/
def utfTextsUptoCard : Claim7 := { stood := { row := utfTextsUptoRow, standIns := [], harness := (true, "99d921b434a5ab8909da275d35949c2c9ab43bff39c9e57c92a80fe3ea778f61"), looks := false }, kinds := [], alts := [], laidByText := true, laidKinds := [.data, .pinned], laidTests := true, laidLooks := .later }
def UtfTextsUptoCardSaid : Prop := Claim7.holds Tryd.pinned (.plain (OpenSpec.upto utfTextsSpec)) utfTextsUptoCard

/-- THE SECOND FORM's CARD OF 'crierlaw04.UtfJoins'. -/
def utfJoinsUptoCard : Claim7 := { stood := { row := utfJoinsUptoRow, standIns := [], harness := (true, "99d921b434a5ab8909da275d35949c2c9ab43bff39c9e57c92a80fe3ea778f61"), looks := false }, kinds := [], alts := [], laidByText := true, laidKinds := [.data, .pinned], laidTests := true, laidLooks := .later }
def UtfJoinsUptoCardSaid : Prop := Claim7.holds Tryd.pinned (.plain (OpenSpec.upto utfJoinsSpec)) utfJoinsUptoCard

/-- THE SECOND FORM's CARD OF 'crierlaw04.UtfReads'. -/
def utfReadsUptoCard : Claim7 := { stood := { row := utfReadsUptoRow, standIns := [], harness := (true, "99d921b434a5ab8909da275d35949c2c9ab43bff39c9e57c92a80fe3ea778f61"), looks := false }, kinds := [], alts := [], laidByText := true, laidKinds := [.data, .pinned], laidTests := true, laidLooks := .later }
def UtfReadsUptoCardSaid : Prop := Claim7.holds Tryd.pinned (.plain (OpenSpec.upto utfReadsSpec)) utfReadsUptoCard

/-- THE SECOND FORM's CARD OF 'crierlaw04.UtfBack'. -/
def utfBackUptoCard : Claim7 := { stood := { row := utfBackUptoRow, standIns := [], harness := (true, "99d921b434a5ab8909da275d35949c2c9ab43bff39c9e57c92a80fe3ea778f61"), looks := false }, kinds := [], alts := [], laidByText := true, laidKinds := [.data, .pinned], laidTests := true, laidLooks := .later }
def UtfBackUptoCardSaid : Prop := Claim7.holds Tryd.pinned (.plain (OpenSpec.upto utfBackSpec)) utfBackUptoCard

/-- THE SECOND FORM's CARD OF 'crierlaw14.PublishPuts'. -/
def publishPutsUptoCard : Claim7 := { stood := { row := publishPutsUptoRow, standIns := [], harness := (true, "99d921b434a5ab8909da275d35949c2c9ab43bff39c9e57c92a80fe3ea778f61"), looks := false }, kinds := [], alts := [], laidByText := true, laidKinds := [.data, .pinned], laidTests := true, laidLooks := .later }
def PublishPutsUptoCardSaid : Prop := Claim7.holds Tryd.pinned (.plain (OpenSpec.upto publishPutsSpec)) publishPutsUptoCard

/-- THE SECOND FORM's CARD OF 'crierlaw13.ConnectPuts'. -/
def connectPutsUptoCard : Claim7 := { stood := { row := connectPutsUptoRow, standIns := [], harness := (true, "99d921b434a5ab8909da275d35949c2c9ab43bff39c9e57c92a80fe3ea778f61"), looks := false }, kinds := [], alts := [], laidByText := true, laidKinds := [.data, .pinned], laidTests := true, laidLooks := .later }
def ConnectPutsUptoCardSaid : Prop := Claim7.holds Tryd.pinned (.plain (OpenSpec.upto connectPutsSpec)) connectPutsUptoCard

/-- THE SECOND FORM's CARD OF 'crierlaw14.PublishIds'. -/
def publishIdsUptoCard : Claim7 := { stood := { row := publishIdsUptoRow, standIns := [], harness := (true, "99d921b434a5ab8909da275d35949c2c9ab43bff39c9e57c92a80fe3ea778f61"), looks := false }, kinds := [], alts := [], laidByText := true, laidKinds := [.data, .pinned], laidTests := true, laidLooks := .later }
def PublishIdsUptoCardSaid : Prop := Claim7.holds Tryd.pinned (.plain (OpenSpec.upto publishIdsSpec)) publishIdsUptoCard

/-- THE SECOND FORM's CARD OF 'crierlaw13.ConnectAcks'. -/
def connectAcksUptoCard : Claim7 := { stood := { row := connectAcksUptoRow, standIns := [], harness := (true, "99d921b434a5ab8909da275d35949c2c9ab43bff39c9e57c92a80fe3ea778f61"), looks := false }, kinds := [], alts := [], laidByText := true, laidKinds := [.data, .pinned], laidTests := true, laidLooks := .later }
def ConnectAcksUptoCardSaid : Prop := Claim7.holds Tryd.pinned (.plain (OpenSpec.upto connectAcksSpec)) connectAcksUptoCard

/-- THE SECOND FORM's CARD OF 'crierlaw14.PublishReads'. -/
def publishReadsUptoCard : Claim7 := { stood := { row := publishReadsUptoRow, standIns := [], harness := (true, "99d921b434a5ab8909da275d35949c2c9ab43bff39c9e57c92a80fe3ea778f61"), looks := false }, kinds := [], alts := [], laidByText := true, laidKinds := [.data, .pinned], laidTests := true, laidLooks := .later }
def PublishReadsUptoCardSaid : Prop := Claim7.holds Tryd.pinned (.plain (OpenSpec.upto publishReadsSpec)) publishReadsUptoCard

/-- THE SECOND FORM's CARD OF 'crierlaw14.PublishBack'. -/
def publishBackUptoCard : Claim7 := { stood := { row := publishBackUptoRow, standIns := [], harness := (true, "99d921b434a5ab8909da275d35949c2c9ab43bff39c9e57c92a80fe3ea778f61"), looks := false }, kinds := [], alts := [], laidByText := true, laidKinds := [.data, .pinned], laidTests := true, laidLooks := .later }
def PublishBackUptoCardSaid : Prop := Claim7.holds Tryd.pinned (.plain (OpenSpec.upto publishBackSpec)) publishBackUptoCard

/-- THE SECOND FORM's CARD OF 'crierlaw13.ConnectReads'. -/
def connectReadsUptoCard : Claim7 := { stood := { row := connectReadsUptoRow, standIns := [], harness := (true, "99d921b434a5ab8909da275d35949c2c9ab43bff39c9e57c92a80fe3ea778f61"), looks := false }, kinds := [], alts := [], laidByText := true, laidKinds := [.data, .pinned], laidTests := true, laidLooks := .later }
def ConnectReadsUptoCardSaid : Prop := Claim7.holds Tryd.pinned (.plain (OpenSpec.upto connectReadsSpec)) connectReadsUptoCard

/-- THE SECOND FORM's CARD OF 'crierlaw13.ConnectBack'. -/
def connectBackUptoCard : Claim7 := { stood := { row := connectBackUptoRow, standIns := [], harness := (true, "99d921b434a5ab8909da275d35949c2c9ab43bff39c9e57c92a80fe3ea778f61"), looks := false }, kinds := [], alts := [], laidByText := true, laidKinds := [.data, .pinned], laidTests := true, laidLooks := .later }
def ConnectBackUptoCardSaid : Prop := Claim7.holds Tryd.pinned (.plain (OpenSpec.upto connectBackSpec)) connectBackUptoCard
end Rows
end Go.Proofs.YtinfcjnmloglhaaDoor
