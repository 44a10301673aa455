/-
  DERIVED. GIVEN WITH THE SEED: THE CARDS: each row of YtopopdghmfbciaaDoorRows.lean that lists a variable, with what it lists TIED to the program's text (the seventh form; the later family's looks); each row that meets fmt, with fmt's text TOLD by the authors' own Lean function (tested against real Go, not proved from fmt's source: count such statements apart). THE CARD IS WHAT COUNTS. Prove the row's statement (the work); the ties are given (YtopopdghmfbciaaDoorTie.lean); close each card by the builder's one call (the guide's Derived/Test/ToyasCard.lean, 'card_holds'). Laid BY PROGRAM, IN A SANDBOX (cutbox-door.mjs). By AI agents, Wed Nov 11 2026. No macro, syntax, notation, axiom, sorry.
-/
import Derived.Test.YtopopdghmfbciaaDoorRows
import GoSem.ClaimSeven
namespace Go.Proofs.YtopopdghmfbciaaDoor
namespace Rows

/-- THE TIED CARD OF 'crierlaw17.LevelLimits'. -/
def levelLimitsCard : Claim7 := { stood := { row := levelLimitsRow, standIns := [], harness := (true, "44a99d62f8e02290c1fcc6a9308d29dc14bce4a809eeb6e46b0f9bc84928bb7f"), looks := false }, kinds := [], alts := [], laidByText := true, laidKinds := [.data, .pinned], laidTests := true, laidLooks := .later }
def LevelLimitsCardSaid : Prop := Claim7.holds Tryd.pinned (.plain (OpenSpec.ofChange levelLimitsSpec)) levelLimitsCard

/-- THE TIED CARD OF 'crierlaw18.MatchSelf'. -/
def matchSelfCard : Claim7 := { stood := { row := matchSelfRow, standIns := [], harness := (true, "44a99d62f8e02290c1fcc6a9308d29dc14bce4a809eeb6e46b0f9bc84928bb7f"), looks := false }, kinds := [], alts := [], laidByText := true, laidKinds := [.data, .pinned], laidTests := true, laidLooks := .later }
def MatchSelfCardSaid : Prop := Claim7.holds Tryd.pinned (.plain (OpenSpec.ofChange matchSelfSpec)) matchSelfCard

/-- THE TIED CARD OF 'crierlaw18.MatchDeep'. -/
def matchDeepCard : Claim7 := { stood := { row := matchDeepRow, standIns := [], harness := (true, "44a99d62f8e02290c1fcc6a9308d29dc14bce4a809eeb6e46b0f9bc84928bb7f"), looks := false }, kinds := [], alts := [], laidByText := true, laidKinds := [.data, .pinned], laidTests := true, laidLooks := .later }
def MatchDeepCardSaid : Prop := Claim7.holds Tryd.pinned (.plain (OpenSpec.ofChange matchDeepSpec)) matchDeepCard

/-- THE TIED CARD OF 'crierlaw18.MatchPlays'. -/
def matchPlaysCard : Claim7 := { stood := { row := matchPlaysRow, standIns := [], harness := (true, "44a99d62f8e02290c1fcc6a9308d29dc14bce4a809eeb6e46b0f9bc84928bb7f"), looks := false }, kinds := [], alts := [], laidByText := true, laidKinds := [.data, .pinned], laidTests := true, laidLooks := .later }
def MatchPlaysCardSaid : Prop := Claim7.holds Tryd.pinned (.plain (OpenSpec.ofChange matchPlaysSpec)) matchPlaysCard

/-- THE TIED CARD OF 'crierlaw18.MatchCovers'. -/
def matchCoversCard : Claim7 := { stood := { row := matchCoversRow, standIns := [], harness := (true, "44a99d62f8e02290c1fcc6a9308d29dc14bce4a809eeb6e46b0f9bc84928bb7f"), looks := false }, kinds := [], alts := [], laidByText := true, laidKinds := [.data, .pinned], laidTests := true, laidLooks := .later }
def MatchCoversCardSaid : Prop := Claim7.holds Tryd.pinned (.plain (OpenSpec.ofChange matchCoversSpec)) matchCoversCard

/-- THE TIED CARD OF 'crierlaw17.LevelBack'. -/
def levelBackCard : Claim7 := { stood := { row := levelBackRow, standIns := [], harness := (true, "44a99d62f8e02290c1fcc6a9308d29dc14bce4a809eeb6e46b0f9bc84928bb7f"), looks := false }, kinds := [], alts := [], laidByText := true, laidKinds := [.data, .pinned], laidTests := true, laidLooks := .later }
def LevelBackCardSaid : Prop := Claim7.holds Tryd.pinned (.plain (OpenSpec.ofChange levelBackSpec)) levelBackCard

/-- THE TIED CARD OF 'crierlaw17.LevelPlays'. -/
def levelPlaysCard : Claim7 := { stood := { row := levelPlaysRow, standIns := [], harness := (true, "44a99d62f8e02290c1fcc6a9308d29dc14bce4a809eeb6e46b0f9bc84928bb7f"), looks := false }, kinds := [], alts := [], laidByText := true, laidKinds := [.data, .pinned], laidTests := true, laidLooks := .later }
def LevelPlaysCardSaid : Prop := Claim7.holds Tryd.pinned (.plain (OpenSpec.ofChange levelPlaysSpec)) levelPlaysCard

/-- THE TIED CARD OF 'crierlaw20.SpaceBack'. -/
def spaceBackCard : Claim7 := { stood := { row := spaceBackRow, standIns := [], harness := (true, "44a99d62f8e02290c1fcc6a9308d29dc14bce4a809eeb6e46b0f9bc84928bb7f"), looks := false }, kinds := [], alts := [], laidByText := true, laidKinds := [.data, .data, .pinned], laidTests := true, laidLooks := .later }
def SpaceBackCardSaid : Prop := Claim7.holds Tryd.pinned (.plain (OpenSpec.ofChange spaceBackSpec)) spaceBackCard

/-- THE TIED CARD OF 'crierlaw20.SpaceOne'. -/
def spaceOneCard : Claim7 := { stood := { row := spaceOneRow, standIns := [], harness := (true, "44a99d62f8e02290c1fcc6a9308d29dc14bce4a809eeb6e46b0f9bc84928bb7f"), looks := false }, kinds := [], alts := [], laidByText := true, laidKinds := [.data, .data, .pinned], laidTests := true, laidLooks := .later }
def SpaceOneCardSaid : Prop := Claim7.holds Tryd.pinned (.plain (OpenSpec.ofChange spaceOneSpec)) spaceOneCard

/-- THE TIED CARD OF 'crierlaw20.SpaceWords'. -/
def spaceWordsCard : Claim7 := { stood := { row := spaceWordsRow, standIns := [], harness := (true, "44a99d62f8e02290c1fcc6a9308d29dc14bce4a809eeb6e46b0f9bc84928bb7f"), looks := false }, kinds := [], alts := [], laidByText := true, laidKinds := [.data, .data, .pinned], laidTests := true, laidLooks := .later }
def SpaceWordsCardSaid : Prop := Claim7.holds Tryd.pinned (.plain (OpenSpec.ofChange spaceWordsSpec)) spaceWordsCard

/-- THE TIED CARD OF 'crierlaw20.SpacePlays'. -/
def spacePlaysCard : Claim7 := { stood := { row := spacePlaysRow, standIns := [], harness := (true, "44a99d62f8e02290c1fcc6a9308d29dc14bce4a809eeb6e46b0f9bc84928bb7f"), looks := false }, kinds := [], alts := [], laidByText := true, laidKinds := [.data, .data, .pinned], laidTests := true, laidLooks := .later }
def SpacePlaysCardSaid : Prop := Claim7.holds Tryd.pinned (.plain (OpenSpec.ofChange spacePlaysSpec)) spacePlaysCard

/-- THE TIED CARD OF 'crierlaw20.SpaceBirths'. -/
def spaceBirthsCard : Claim7 := { stood := { row := spaceBirthsRow, standIns := [], harness := (true, "44a99d62f8e02290c1fcc6a9308d29dc14bce4a809eeb6e46b0f9bc84928bb7f"), looks := false }, kinds := [], alts := [], laidByText := true, laidKinds := [.data, .data, .pinned], laidTests := true, laidLooks := .later }
def SpaceBirthsCardSaid : Prop := Claim7.holds Tryd.pinned (.plain (OpenSpec.ofChange spaceBirthsSpec)) spaceBirthsCard

/-- THE SECOND FORM's CARD OF 'crierlaw17.LevelLimits'. -/
def levelLimitsUptoCard : Claim7 := { stood := { row := levelLimitsUptoRow, standIns := [], harness := (true, "44a99d62f8e02290c1fcc6a9308d29dc14bce4a809eeb6e46b0f9bc84928bb7f"), looks := false }, kinds := [], alts := [], laidByText := true, laidKinds := [.data, .pinned], laidTests := true, laidLooks := .later }
def LevelLimitsUptoCardSaid : Prop := Claim7.holds Tryd.pinned (.plain (OpenSpec.upto levelLimitsSpec)) levelLimitsUptoCard

/-- THE SECOND FORM's CARD OF 'crierlaw18.MatchSelf'. -/
def matchSelfUptoCard : Claim7 := { stood := { row := matchSelfUptoRow, standIns := [], harness := (true, "44a99d62f8e02290c1fcc6a9308d29dc14bce4a809eeb6e46b0f9bc84928bb7f"), looks := false }, kinds := [], alts := [], laidByText := true, laidKinds := [.data, .pinned], laidTests := true, laidLooks := .later }
def MatchSelfUptoCardSaid : Prop := Claim7.holds Tryd.pinned (.plain (OpenSpec.upto matchSelfSpec)) matchSelfUptoCard

/-- THE SECOND FORM's CARD OF 'crierlaw18.MatchDeep'. -/
def matchDeepUptoCard : Claim7 := { stood := { row := matchDeepUptoRow, standIns := [], harness := (true, "44a99d62f8e02290c1fcc6a9308d29dc14bce4a809eeb6e46b0f9bc84928bb7f"), looks := false }, kinds := [], alts := [], laidByText := true, laidKinds := [.data, .pinned], laidTests := true, laidLooks := .later }
def MatchDeepUptoCardSaid : Prop := Claim7.holds Tryd.pinned (.plain (OpenSpec.upto matchDeepSpec)) matchDeepUptoCard

/-- THE SECOND FORM's CARD OF 'crierlaw18.MatchPlays'. -/
def matchPlaysUptoCard : Claim7 := { stood := { row := matchPlaysUptoRow, standIns := [], harness := (true, "44a99d62f8e02290c1fcc6a9308d29dc14bce4a809eeb6e46b0f9bc84928bb7f"), looks := false }, kinds := [], alts := [], laidByText := true, laidKinds := [.data, .pinned], laidTests := true, laidLooks := .later }
def MatchPlaysUptoCardSaid : Prop := Claim7.holds Tryd.pinned (.plain (OpenSpec.upto matchPlaysSpec)) matchPlaysUptoCard

/-- THE SECOND FORM's CARD OF 'crierlaw18.MatchCovers'. -/
def matchCoversUptoCard : Claim7 := { stood := { row := matchCoversUptoRow, standIns := [], harness := (true, "44a99d62f8e02290c1fcc6a9308d29dc14bce4a809eeb6e46b0f9bc84928bb7f"), looks := false }, kinds := [], alts := [], laidByText := true, laidKinds := [.data, .pinned], laidTests := true, laidLooks := .later }
def MatchCoversUptoCardSaid : Prop := Claim7.holds Tryd.pinned (.plain (OpenSpec.upto matchCoversSpec)) matchCoversUptoCard

/-- THE SECOND FORM's CARD OF 'crierlaw17.LevelBack'. -/
def levelBackUptoCard : Claim7 := { stood := { row := levelBackUptoRow, standIns := [], harness := (true, "44a99d62f8e02290c1fcc6a9308d29dc14bce4a809eeb6e46b0f9bc84928bb7f"), looks := false }, kinds := [], alts := [], laidByText := true, laidKinds := [.data, .pinned], laidTests := true, laidLooks := .later }
def LevelBackUptoCardSaid : Prop := Claim7.holds Tryd.pinned (.plain (OpenSpec.upto levelBackSpec)) levelBackUptoCard

/-- THE SECOND FORM's CARD OF 'crierlaw17.LevelPlays'. -/
def levelPlaysUptoCard : Claim7 := { stood := { row := levelPlaysUptoRow, standIns := [], harness := (true, "44a99d62f8e02290c1fcc6a9308d29dc14bce4a809eeb6e46b0f9bc84928bb7f"), looks := false }, kinds := [], alts := [], laidByText := true, laidKinds := [.data, .pinned], laidTests := true, laidLooks := .later }
def LevelPlaysUptoCardSaid : Prop := Claim7.holds Tryd.pinned (.plain (OpenSpec.upto levelPlaysSpec)) levelPlaysUptoCard

/-- THE SECOND FORM's CARD OF 'crierlaw20.SpaceBack'. -/
def spaceBackUptoCard : Claim7 := { stood := { row := spaceBackUptoRow, standIns := [], harness := (true, "44a99d62f8e02290c1fcc6a9308d29dc14bce4a809eeb6e46b0f9bc84928bb7f"), looks := false }, kinds := [], alts := [], laidByText := true, laidKinds := [.data, .data, .pinned], laidTests := true, laidLooks := .later }
def SpaceBackUptoCardSaid : Prop := Claim7.holds Tryd.pinned (.plain (OpenSpec.upto spaceBackSpec)) spaceBackUptoCard

/-- THE SECOND FORM's CARD OF 'crierlaw20.SpaceOne'. -/
def spaceOneUptoCard : Claim7 := { stood := { row := spaceOneUptoRow, standIns := [], harness := (true, "44a99d62f8e02290c1fcc6a9308d29dc14bce4a809eeb6e46b0f9bc84928bb7f"), looks := false }, kinds := [], alts := [], laidByText := true, laidKinds := [.data, .data, .pinned], laidTests := true, laidLooks := .later }
def SpaceOneUptoCardSaid : Prop := Claim7.holds Tryd.pinned (.plain (OpenSpec.upto spaceOneSpec)) spaceOneUptoCard

/-- THE SECOND FORM's CARD OF 'crierlaw20.SpaceWords'. -/
def spaceWordsUptoCard : Claim7 := { stood := { row := spaceWordsUptoRow, standIns := [], harness := (true, "44a99d62f8e02290c1fcc6a9308d29dc14bce4a809eeb6e46b0f9bc84928bb7f"), looks := false }, kinds := [], alts := [], laidByText := true, laidKinds := [.data, .data, .pinned], laidTests := true, laidLooks := .later }
def SpaceWordsUptoCardSaid : Prop := Claim7.holds Tryd.pinned (.plain (OpenSpec.upto spaceWordsSpec)) spaceWordsUptoCard

/-- THE SECOND FORM's CARD OF 'crierlaw20.SpacePlays'. -/
def spacePlaysUptoCard : Claim7 := { stood := { row := spacePlaysUptoRow, standIns := [], harness := (true, "44a99d62f8e02290c1fcc6a9308d29dc14bce4a809eeb6e46b0f9bc84928bb7f"), looks := false }, kinds := [], alts := [], laidByText := true, laidKinds := [.data, .data, .pinned], laidTests := true, laidLooks := .later }
def SpacePlaysUptoCardSaid : Prop := Claim7.holds Tryd.pinned (.plain (OpenSpec.upto spacePlaysSpec)) spacePlaysUptoCard

/-- THE SECOND FORM's CARD OF 'crierlaw20.SpaceBirths'. -/
def spaceBirthsUptoCard : Claim7 := { stood := { row := spaceBirthsUptoRow, standIns := [], harness := (true, "44a99d62f8e02290c1fcc6a9308d29dc14bce4a809eeb6e46b0f9bc84928bb7f"), looks := false }, kinds := [], alts := [], laidByText := true, laidKinds := [.data, .data, .pinned], laidTests := true, laidLooks := .later }
def SpaceBirthsUptoCardSaid : Prop := Claim7.holds Tryd.pinned (.plain (OpenSpec.upto spaceBirthsSpec)) spaceBirthsUptoCard
end Rows
end Go.Proofs.YtopopdghmfbciaaDoor
