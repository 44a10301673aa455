/-
  NARROWER THAN 'FOR EVERY INPUT', by the rows' own cells (each row's printed sentence says how): LevelLimits: laid · MatchSelf: laid · MatchDeep: laid · MatchPlays: laid · MatchCovers: laid · LevelBack: laid · LevelPlays: laid · SpaceBack: laid · SpaceOne: laid · SpaceWords: laid · SpacePlays: laid · SpaceBirths: laid.
  DERIVED. THE GIVEN ROWS OF THIS SEAT. 12 by the template 'for every input the law returns true; each argument reads behind the call as it read before'; 0 by the template 'total and deterministic' (their statements: YtopopdghmfbciaaDoorTotals.lean).
  GIVEN WITH THE SEED: the statements are not yours to turn. If you find one false, say at which input.
  Laid BY PROGRAM, IN A SANDBOX (cutbox-rows.mjs): the forced cells as the released guide's own fill.sh prints them over the translation 1bfa44632f27840f… (all of the seat's roots in one cut). By AI agents, Wed Nov 11 2026. No macro, syntax, notation, axiom, sorry.
-/
import Derived.Test.YtopopdghmfbciaaDoorChecked
import GoSem.PinnedTables
import GoSem.Claim
import GoSem.ClaimJoined
import GoSem.ClaimMapViews
import Derived.JoinedTies
import Derived.KernelRfl
namespace Go.Proofs.YtopopdghmfbciaaDoor
/- THE CELL 'sum', in the pinned program and in every row, IS THE sha256 OF THE DUMP (.gsa) THAT YtopopdghmfbciaaDoorProg.lean LOADS. Nothing in Lean hashes anything: it is a label: what it is worth is what the hold of that sum in a sandbox is worth. -/
noncomputable def Tryd.pinned : Pinned := { name := "ytopopdghmfbciaadoor", sum := "1bfa44632f27840faa1f49211ae52d2f2609aba4ca2977c0107ba5643d150f37", checked := Tryd.checked }
namespace Rows
def none {H : Type} : Left H := { results := [], args := [] }

/- WHAT THE LISTED PACKAGE-LEVEL VARIABLES READ AS WHEN THE CALL BEGINS. Each datum BY PROGRAM (the guide's laid-datum.mjs) off the statement by which the dump's own 'gosem.cut.vars' lays the variable. In a bare row this is a premise. The card (YtopopdghmfbciaaDoorCards.lean) ties it to the program's text. -/
def laid_unicode_utf8_acceptRanges {H : Type} : DataW H := .agg [.agg [.lit (.int .u8 128), .lit (.int .u8 191)], .agg [.lit (.int .u8 160), .lit (.int .u8 191)], .agg [.lit (.int .u8 128), .lit (.int .u8 159)], .agg [.lit (.int .u8 144), .lit (.int .u8 191)], .agg [.lit (.int .u8 128), .lit (.int .u8 143)], .agg [.lit (.int .u8 0), .lit (.int .u8 0)], .agg [.lit (.int .u8 0), .lit (.int .u8 0)], .agg [.lit (.int .u8 0), .lit (.int .u8 0)], .agg [.lit (.int .u8 0), .lit (.int .u8 0)], .agg [.lit (.int .u8 0), .lit (.int .u8 0)], .agg [.lit (.int .u8 0), .lit (.int .u8 0)], .agg [.lit (.int .u8 0), .lit (.int .u8 0)], .agg [.lit (.int .u8 0), .lit (.int .u8 0)], .agg [.lit (.int .u8 0), .lit (.int .u8 0)], .agg [.lit (.int .u8 0), .lit (.int .u8 0)], .agg [.lit (.int .u8 0), .lit (.int .u8 0)]]
/-- One of Go's own tables, pinned by name: the form's constant. -/
def laid_unicode_utf8_first : DataW Unit := Go.Pinned.utf8First
def laid_crier_space_words {H : Type} : DataW H := .agg [.lit (.string []), .lit (.string [78, 66, 73, 82, 84, 72]), .lit (.string [78, 68, 69, 65, 84, 72]), .lit (.string [78, 68, 65, 84, 65]), .lit (.string [78, 67, 77, 68]), .lit (.string [68, 66, 73, 82, 84, 72]), .lit (.string [68, 68, 69, 65, 84, 72]), .lit (.string [68, 68, 65, 84, 65]), .lit (.string [68, 67, 77, 68]), .lit (.string [83, 84, 65, 84, 69])]

/-- 'crierlaw17.LevelLimits': WHATEVER THE INPUT: true; the input reads as it did. -/
def levelLimitsSpec : ChangeSpec := { name := "levelLimits", fn := fun _ => fun
  | [d1, d2] => { results := [.lit (.bool true)], args := [d1, d2] }
  | _ => none }
def levelLimitsRow : OpenClaim := { program := "ytopopdghmfbciaadoor", sum := "1bfa44632f27840faa1f49211ae52d2f2609aba4ca2977c0107ba5643d150f37", func := "crier/crierlaw17.LevelLimits", spec := "levelLimits", inPlace := ["internal/bytealg.CountString", "internal/bytealg.IndexByteString", "internal/bytealg.IndexString"], named := ["unicode/utf8.first", "unicode/utf8.acceptRanges", "internal/bytealg.MaxLen"], apart := false, laid := [("unicode/utf8.acceptRanges", laid_unicode_utf8_acceptRanges), ("unicode/utf8.first", laid_unicode_utf8_first)] }
def LevelLimitsSaid : Prop := levelLimitsRow.holds Tryd.pinned (OpenSpec.ofChange levelLimitsSpec)

/-- ITS FALSE NEIGHBOUR: 'it returns false'. Refute it at one input. -/
def levelLimitsWrong : ChangeSpec := { name := "levelLimits", fn := fun _ => fun
  | [d1, d2] => { results := [.lit (.bool false)], args := [d1, d2] }
  | _ => none }
def LevelLimitsWrongFalsely : Prop := levelLimitsRow.holds Tryd.pinned (OpenSpec.ofChange levelLimitsWrong)

/-- 'crierlaw18.MatchSelf': WHATEVER THE INPUT: true; the input reads as it did. -/
def matchSelfSpec : ChangeSpec := { name := "matchSelf", fn := fun _ => fun
  | [d1, d2] => { results := [.lit (.bool true)], args := [d1, d2] }
  | _ => none }
def matchSelfRow : OpenClaim := { program := "ytopopdghmfbciaadoor", sum := "1bfa44632f27840faa1f49211ae52d2f2609aba4ca2977c0107ba5643d150f37", func := "crier/crierlaw18.MatchSelf", spec := "matchSelf", inPlace := ["internal/bytealg.CountString", "internal/bytealg.IndexByteString", "internal/bytealg.IndexString"], unfollowed := true, recurses := true, named := ["unicode/utf8.first", "unicode/utf8.acceptRanges", "internal/bytealg.MaxLen"], apart := false, laid := [("unicode/utf8.acceptRanges", laid_unicode_utf8_acceptRanges), ("unicode/utf8.first", laid_unicode_utf8_first)] }
def MatchSelfSaid : Prop := matchSelfRow.holds Tryd.pinned (OpenSpec.ofChange matchSelfSpec)

/-- ITS FALSE NEIGHBOUR: 'it returns false'. Refute it at one input. -/
def matchSelfWrong : ChangeSpec := { name := "matchSelf", fn := fun _ => fun
  | [d1, d2] => { results := [.lit (.bool false)], args := [d1, d2] }
  | _ => none }
def MatchSelfWrongFalsely : Prop := matchSelfRow.holds Tryd.pinned (OpenSpec.ofChange matchSelfWrong)

/-- 'crierlaw18.MatchDeep': WHATEVER THE INPUT: true; the input reads as it did. -/
def matchDeepSpec : ChangeSpec := { name := "matchDeep", fn := fun _ => fun
  | [d1, d2] => { results := [.lit (.bool true)], args := [d1, d2] }
  | _ => none }
def matchDeepRow : OpenClaim := { program := "ytopopdghmfbciaadoor", sum := "1bfa44632f27840faa1f49211ae52d2f2609aba4ca2977c0107ba5643d150f37", func := "crier/crierlaw18.MatchDeep", spec := "matchDeep", inPlace := ["internal/bytealg.CountString", "internal/bytealg.IndexByteString", "internal/bytealg.IndexString"], unfollowed := true, recurses := true, named := ["unicode/utf8.first", "unicode/utf8.acceptRanges", "internal/bytealg.MaxLen"], apart := false, laid := [("unicode/utf8.acceptRanges", laid_unicode_utf8_acceptRanges), ("unicode/utf8.first", laid_unicode_utf8_first)] }
def MatchDeepSaid : Prop := matchDeepRow.holds Tryd.pinned (OpenSpec.ofChange matchDeepSpec)

/-- ITS FALSE NEIGHBOUR: 'it returns false'. Refute it at one input. -/
def matchDeepWrong : ChangeSpec := { name := "matchDeep", fn := fun _ => fun
  | [d1, d2] => { results := [.lit (.bool false)], args := [d1, d2] }
  | _ => none }
def MatchDeepWrongFalsely : Prop := matchDeepRow.holds Tryd.pinned (OpenSpec.ofChange matchDeepWrong)

/-- 'crierlaw18.MatchPlays': WHATEVER THE INPUT: true; the input reads as it did. -/
def matchPlaysSpec : ChangeSpec := { name := "matchPlays", fn := fun _ => fun
  | [d1, d2] => { results := [.lit (.bool true)], args := [d1, d2] }
  | _ => none }
def matchPlaysRow : OpenClaim := { program := "ytopopdghmfbciaadoor", sum := "1bfa44632f27840faa1f49211ae52d2f2609aba4ca2977c0107ba5643d150f37", func := "crier/crierlaw18.MatchPlays", spec := "matchPlays", inPlace := ["internal/bytealg.CountString", "internal/bytealg.IndexByteString", "internal/bytealg.IndexString"], unfollowed := true, recurses := true, named := ["unicode/utf8.first", "unicode/utf8.acceptRanges", "internal/bytealg.MaxLen"], apart := false, laid := [("unicode/utf8.acceptRanges", laid_unicode_utf8_acceptRanges), ("unicode/utf8.first", laid_unicode_utf8_first)] }
def MatchPlaysSaid : Prop := matchPlaysRow.holds Tryd.pinned (OpenSpec.ofChange matchPlaysSpec)

/-- ITS FALSE NEIGHBOUR: 'it returns false'. Refute it at one input. -/
def matchPlaysWrong : ChangeSpec := { name := "matchPlays", fn := fun _ => fun
  | [d1, d2] => { results := [.lit (.bool false)], args := [d1, d2] }
  | _ => none }
def MatchPlaysWrongFalsely : Prop := matchPlaysRow.holds Tryd.pinned (OpenSpec.ofChange matchPlaysWrong)

/-- 'crierlaw18.MatchCovers': WHATEVER THE INPUT: true; the input reads as it did. -/
def matchCoversSpec : ChangeSpec := { name := "matchCovers", fn := fun _ => fun
  | [d1, d2, d3, d4] => { results := [.lit (.bool true)], args := [d1, d2, d3, d4] }
  | _ => none }
def matchCoversRow : OpenClaim := { program := "ytopopdghmfbciaadoor", sum := "1bfa44632f27840faa1f49211ae52d2f2609aba4ca2977c0107ba5643d150f37", func := "crier/crierlaw18.MatchCovers", spec := "matchCovers", inPlace := ["internal/bytealg.CountString", "internal/bytealg.IndexByteString", "internal/bytealg.IndexString"], unfollowed := true, recurses := true, named := ["unicode/utf8.first", "unicode/utf8.acceptRanges", "internal/bytealg.MaxLen"], apart := false, laid := [("unicode/utf8.acceptRanges", laid_unicode_utf8_acceptRanges), ("unicode/utf8.first", laid_unicode_utf8_first)] }
def MatchCoversSaid : Prop := matchCoversRow.holds Tryd.pinned (OpenSpec.ofChange matchCoversSpec)

/-- ITS FALSE NEIGHBOUR: 'it returns false'. Refute it at one input. -/
def matchCoversWrong : ChangeSpec := { name := "matchCovers", fn := fun _ => fun
  | [d1, d2, d3, d4] => { results := [.lit (.bool false)], args := [d1, d2, d3, d4] }
  | _ => none }
def MatchCoversWrongFalsely : Prop := matchCoversRow.holds Tryd.pinned (OpenSpec.ofChange matchCoversWrong)

/-- 'crierlaw17.LevelBack': WHATEVER THE INPUT: true; the input reads as it did. -/
def levelBackSpec : ChangeSpec := { name := "levelBack", fn := fun _ => fun
  | [d] => { results := [.lit (.bool true)], args := [d] }
  | _ => none }
def levelBackRow : OpenClaim := { program := "ytopopdghmfbciaadoor", sum := "1bfa44632f27840faa1f49211ae52d2f2609aba4ca2977c0107ba5643d150f37", func := "crier/crierlaw17.LevelBack", spec := "levelBack", inPlace := ["internal/bytealg.CountString", "internal/bytealg.IndexByteString", "internal/bytealg.IndexString", "internal/abi.NoEscape", "internal/bytealg.MakeNoZero"], named := ["internal/bytealg.MaxLen", "unicode/utf8.first", "unicode/utf8.acceptRanges"], apart := false, laid := [("unicode/utf8.acceptRanges", laid_unicode_utf8_acceptRanges), ("unicode/utf8.first", laid_unicode_utf8_first)] }
def LevelBackSaid : Prop := levelBackRow.holds Tryd.pinned (OpenSpec.ofChange levelBackSpec)

/-- ITS FALSE NEIGHBOUR: 'it returns false'. Refute it at one input. -/
def levelBackWrong : ChangeSpec := { name := "levelBack", fn := fun _ => fun
  | [d] => { results := [.lit (.bool false)], args := [d] }
  | _ => none }
def LevelBackWrongFalsely : Prop := levelBackRow.holds Tryd.pinned (OpenSpec.ofChange levelBackWrong)

/-- 'crierlaw17.LevelPlays': WHATEVER THE INPUT: true; the input reads as it did. -/
def levelPlaysSpec : ChangeSpec := { name := "levelPlays", fn := fun _ => fun
  | [d1, d2] => { results := [.lit (.bool true)], args := [d1, d2] }
  | _ => none }
def levelPlaysRow : OpenClaim := { program := "ytopopdghmfbciaadoor", sum := "1bfa44632f27840faa1f49211ae52d2f2609aba4ca2977c0107ba5643d150f37", func := "crier/crierlaw17.LevelPlays", spec := "levelPlays", inPlace := ["internal/bytealg.CountString", "internal/bytealg.IndexByteString", "internal/bytealg.IndexString", "internal/abi.NoEscape", "internal/bytealg.MakeNoZero"], named := ["internal/bytealg.MaxLen", "unicode/utf8.first", "unicode/utf8.acceptRanges"], apart := false, laid := [("unicode/utf8.acceptRanges", laid_unicode_utf8_acceptRanges), ("unicode/utf8.first", laid_unicode_utf8_first)] }
def LevelPlaysSaid : Prop := levelPlaysRow.holds Tryd.pinned (OpenSpec.ofChange levelPlaysSpec)

/-- ITS FALSE NEIGHBOUR: 'it returns false'. Refute it at one input. -/
def levelPlaysWrong : ChangeSpec := { name := "levelPlays", fn := fun _ => fun
  | [d1, d2] => { results := [.lit (.bool false)], args := [d1, d2] }
  | _ => none }
def LevelPlaysWrongFalsely : Prop := levelPlaysRow.holds Tryd.pinned (OpenSpec.ofChange levelPlaysWrong)

/-- 'crierlaw20.SpaceBack': WHATEVER THE INPUT: true; the input reads as it did. -/
def spaceBackSpec : ChangeSpec := { name := "spaceBack", fn := fun _ => fun
  | [d1, d2] => { results := [.lit (.bool true)], args := [d1, d2] }
  | _ => none }
def spaceBackRow : OpenClaim := { program := "ytopopdghmfbciaadoor", sum := "1bfa44632f27840faa1f49211ae52d2f2609aba4ca2977c0107ba5643d150f37", func := "crier/crierlaw20.SpaceBack", spec := "spaceBack", inPlace := ["internal/bytealg.CountString", "internal/bytealg.IndexByteString", "internal/bytealg.IndexString", "internal/abi.NoEscape", "internal/bytealg.MakeNoZero"], named := ["crier/space.words", "unicode/utf8.first", "unicode/utf8.acceptRanges", "internal/bytealg.MaxLen"], apart := false, laid := [("unicode/utf8.acceptRanges", laid_unicode_utf8_acceptRanges), ("crier/space.words", laid_crier_space_words), ("unicode/utf8.first", laid_unicode_utf8_first)] }
def SpaceBackSaid : Prop := spaceBackRow.holds Tryd.pinned (OpenSpec.ofChange spaceBackSpec)

/-- ITS FALSE NEIGHBOUR: 'it returns false'. Refute it at one input. -/
def spaceBackWrong : ChangeSpec := { name := "spaceBack", fn := fun _ => fun
  | [d1, d2] => { results := [.lit (.bool false)], args := [d1, d2] }
  | _ => none }
def SpaceBackWrongFalsely : Prop := spaceBackRow.holds Tryd.pinned (OpenSpec.ofChange spaceBackWrong)

/-- 'crierlaw20.SpaceOne': WHATEVER THE INPUT: true; the input reads as it did. -/
def spaceOneSpec : ChangeSpec := { name := "spaceOne", fn := fun _ => fun
  | [d1, d2] => { results := [.lit (.bool true)], args := [d1, d2] }
  | _ => none }
def spaceOneRow : OpenClaim := { program := "ytopopdghmfbciaadoor", sum := "1bfa44632f27840faa1f49211ae52d2f2609aba4ca2977c0107ba5643d150f37", func := "crier/crierlaw20.SpaceOne", spec := "spaceOne", inPlace := ["internal/bytealg.CountString", "internal/bytealg.IndexByteString", "internal/bytealg.IndexString", "internal/abi.NoEscape", "internal/bytealg.MakeNoZero"], named := ["crier/space.words", "unicode/utf8.first", "unicode/utf8.acceptRanges", "internal/bytealg.MaxLen"], apart := false, laid := [("unicode/utf8.acceptRanges", laid_unicode_utf8_acceptRanges), ("crier/space.words", laid_crier_space_words), ("unicode/utf8.first", laid_unicode_utf8_first)] }
def SpaceOneSaid : Prop := spaceOneRow.holds Tryd.pinned (OpenSpec.ofChange spaceOneSpec)

/-- ITS FALSE NEIGHBOUR: 'it returns false'. Refute it at one input. -/
def spaceOneWrong : ChangeSpec := { name := "spaceOne", fn := fun _ => fun
  | [d1, d2] => { results := [.lit (.bool false)], args := [d1, d2] }
  | _ => none }
def SpaceOneWrongFalsely : Prop := spaceOneRow.holds Tryd.pinned (OpenSpec.ofChange spaceOneWrong)

/-- 'crierlaw20.SpaceWords': WHATEVER THE INPUT: true; the input reads as it did. -/
def spaceWordsSpec : ChangeSpec := { name := "spaceWords", fn := fun _ => fun
  | [d1, d2] => { results := [.lit (.bool true)], args := [d1, d2] }
  | _ => none }
def spaceWordsRow : OpenClaim := { program := "ytopopdghmfbciaadoor", sum := "1bfa44632f27840faa1f49211ae52d2f2609aba4ca2977c0107ba5643d150f37", func := "crier/crierlaw20.SpaceWords", spec := "spaceWords", inPlace := ["internal/bytealg.CountString", "internal/bytealg.IndexByteString", "internal/bytealg.IndexString", "internal/abi.NoEscape", "internal/bytealg.MakeNoZero"], named := ["crier/space.words", "internal/bytealg.MaxLen", "unicode/utf8.first", "unicode/utf8.acceptRanges"], apart := false, laid := [("unicode/utf8.acceptRanges", laid_unicode_utf8_acceptRanges), ("crier/space.words", laid_crier_space_words), ("unicode/utf8.first", laid_unicode_utf8_first)] }
def SpaceWordsSaid : Prop := spaceWordsRow.holds Tryd.pinned (OpenSpec.ofChange spaceWordsSpec)

/-- ITS FALSE NEIGHBOUR: 'it returns false'. Refute it at one input. -/
def spaceWordsWrong : ChangeSpec := { name := "spaceWords", fn := fun _ => fun
  | [d1, d2] => { results := [.lit (.bool false)], args := [d1, d2] }
  | _ => none }
def SpaceWordsWrongFalsely : Prop := spaceWordsRow.holds Tryd.pinned (OpenSpec.ofChange spaceWordsWrong)

/-- 'crierlaw20.SpacePlays': WHATEVER THE INPUT: true; the input reads as it did. -/
def spacePlaysSpec : ChangeSpec := { name := "spacePlays", fn := fun _ => fun
  | [d1, d2] => { results := [.lit (.bool true)], args := [d1, d2] }
  | _ => none }
def spacePlaysRow : OpenClaim := { program := "ytopopdghmfbciaadoor", sum := "1bfa44632f27840faa1f49211ae52d2f2609aba4ca2977c0107ba5643d150f37", func := "crier/crierlaw20.SpacePlays", spec := "spacePlays", inPlace := ["internal/bytealg.CountString", "internal/bytealg.IndexByteString", "internal/bytealg.IndexString", "internal/abi.NoEscape", "internal/bytealg.MakeNoZero"], named := ["crier/space.words", "unicode/utf8.first", "unicode/utf8.acceptRanges", "internal/bytealg.MaxLen"], apart := false, laid := [("unicode/utf8.acceptRanges", laid_unicode_utf8_acceptRanges), ("crier/space.words", laid_crier_space_words), ("unicode/utf8.first", laid_unicode_utf8_first)] }
def SpacePlaysSaid : Prop := spacePlaysRow.holds Tryd.pinned (OpenSpec.ofChange spacePlaysSpec)

/-- ITS FALSE NEIGHBOUR: 'it returns false'. Refute it at one input. -/
def spacePlaysWrong : ChangeSpec := { name := "spacePlays", fn := fun _ => fun
  | [d1, d2] => { results := [.lit (.bool false)], args := [d1, d2] }
  | _ => none }
def SpacePlaysWrongFalsely : Prop := spacePlaysRow.holds Tryd.pinned (OpenSpec.ofChange spacePlaysWrong)

/-- 'crierlaw20.SpaceBirths': WHATEVER THE INPUT: true; the input reads as it did. -/
def spaceBirthsSpec : ChangeSpec := { name := "spaceBirths", fn := fun _ => fun
  | [d] => { results := [.lit (.bool true)], args := [d] }
  | _ => none }
def spaceBirthsRow : OpenClaim := { program := "ytopopdghmfbciaadoor", sum := "1bfa44632f27840faa1f49211ae52d2f2609aba4ca2977c0107ba5643d150f37", func := "crier/crierlaw20.SpaceBirths", spec := "spaceBirths", inPlace := ["internal/bytealg.CountString", "internal/bytealg.IndexByteString", "internal/bytealg.IndexString", "internal/abi.NoEscape", "internal/bytealg.MakeNoZero"], named := ["crier/space.words", "unicode/utf8.first", "unicode/utf8.acceptRanges", "internal/bytealg.MaxLen"], apart := false, laid := [("unicode/utf8.acceptRanges", laid_unicode_utf8_acceptRanges), ("crier/space.words", laid_crier_space_words), ("unicode/utf8.first", laid_unicode_utf8_first)] }
def SpaceBirthsSaid : Prop := spaceBirthsRow.holds Tryd.pinned (OpenSpec.ofChange spaceBirthsSpec)

/-- ITS FALSE NEIGHBOUR: 'it returns false'. Refute it at one input. -/
def spaceBirthsWrong : ChangeSpec := { name := "spaceBirths", fn := fun _ => fun
  | [d] => { results := [.lit (.bool false)], args := [d] }
  | _ => none }
def SpaceBirthsWrongFalsely : Prop := spaceBirthsRow.holds Tryd.pinned (OpenSpec.ofChange spaceBirthsWrong)

/- THE SECOND FORM. 'bulk': how many values and letters a reading holds, each counted each time it is reached (what is shared counts as often as it is met; a slice's spare places count too). A statement '..UptoSaid' is the law's where the arguments, and the package variables that the reading takes, are together of bulk at most 1048576: NARROWER than '..Said'. Prove '..Said' where nothing that the law and all that it calls make is longer than what came in: it says more and counts as full. Else prove '..UptoSaid'. A law counts once. -/
mutual
def uptoBulk {H : Type} : DataW H → Nat
  | .lit (.string bytes) => bytes.length + 1
  | .lit _ => 1
  | .nil => 1
  | .ptr d => uptoBulk d + 1
  | .slice elems spare => uptoBulkAll elems + uptoBulkAll spare + 1
  | .agg parts => uptoBulkAll parts + 1
  | .iface _ d => uptoBulk d + 1
  | .map entries => uptoBulkEntries entries + 1
  | .held _ => 1
def uptoBulkAll {H : Type} : List (DataW H) → Nat
  | [] => 0
  | d :: r => uptoBulk d + uptoBulkAll r
def uptoBulkEntries {H : Type} : List (Lit × DataW H) → Nat
  | [] => 0
  | x :: r => uptoBulkEntry x + uptoBulkEntries r
def uptoBulkEntry {H : Type} : Lit × DataW H → Nat
  | (.string bytes, d) => bytes.length + uptoBulk d + 1
  | (_, d) => uptoBulk d + 1
 end
def uptoSmall : (H : Type) → List (DataW H) → Bool := fun _ ds => decide (uptoBulkAll ds ≤ 1048576)
def OpenSpec.upto (s : _root_.Go.ChangeSpec) : _root_.Go.OpenSpec := { _root_.Go.OpenSpec.ofChange s with cond := some uptoSmall }

/-- 'crierlaw17.LevelLimits', WHERE WHAT IT READS IS OF BULK AT MOST 1048576: true; the input reads as it did. -/
def levelLimitsUptoRow : OpenClaim := { program := "ytopopdghmfbciaadoor", sum := "1bfa44632f27840faa1f49211ae52d2f2609aba4ca2977c0107ba5643d150f37", func := "crier/crierlaw17.LevelLimits", spec := "levelLimits", inPlace := ["internal/bytealg.CountString", "internal/bytealg.IndexByteString", "internal/bytealg.IndexString"], named := ["unicode/utf8.first", "unicode/utf8.acceptRanges", "internal/bytealg.MaxLen"], apart := false, laid := [("unicode/utf8.acceptRanges", laid_unicode_utf8_acceptRanges), ("unicode/utf8.first", laid_unicode_utf8_first)], narrowed := true }
def LevelLimitsUptoSaid : Prop := levelLimitsUptoRow.holds Tryd.pinned (OpenSpec.upto levelLimitsSpec)

/-- 'crierlaw18.MatchSelf', WHERE WHAT IT READS IS OF BULK AT MOST 1048576: true; the input reads as it did. -/
def matchSelfUptoRow : OpenClaim := { program := "ytopopdghmfbciaadoor", sum := "1bfa44632f27840faa1f49211ae52d2f2609aba4ca2977c0107ba5643d150f37", func := "crier/crierlaw18.MatchSelf", spec := "matchSelf", inPlace := ["internal/bytealg.CountString", "internal/bytealg.IndexByteString", "internal/bytealg.IndexString"], unfollowed := true, recurses := true, named := ["unicode/utf8.first", "unicode/utf8.acceptRanges", "internal/bytealg.MaxLen"], apart := false, laid := [("unicode/utf8.acceptRanges", laid_unicode_utf8_acceptRanges), ("unicode/utf8.first", laid_unicode_utf8_first)], narrowed := true }
def MatchSelfUptoSaid : Prop := matchSelfUptoRow.holds Tryd.pinned (OpenSpec.upto matchSelfSpec)

/-- 'crierlaw18.MatchDeep', WHERE WHAT IT READS IS OF BULK AT MOST 1048576: true; the input reads as it did. -/
def matchDeepUptoRow : OpenClaim := { program := "ytopopdghmfbciaadoor", sum := "1bfa44632f27840faa1f49211ae52d2f2609aba4ca2977c0107ba5643d150f37", func := "crier/crierlaw18.MatchDeep", spec := "matchDeep", inPlace := ["internal/bytealg.CountString", "internal/bytealg.IndexByteString", "internal/bytealg.IndexString"], unfollowed := true, recurses := true, named := ["unicode/utf8.first", "unicode/utf8.acceptRanges", "internal/bytealg.MaxLen"], apart := false, laid := [("unicode/utf8.acceptRanges", laid_unicode_utf8_acceptRanges), ("unicode/utf8.first", laid_unicode_utf8_first)], narrowed := true }
def MatchDeepUptoSaid : Prop := matchDeepUptoRow.holds Tryd.pinned (OpenSpec.upto matchDeepSpec)

/-- 'crierlaw18.MatchPlays', WHERE WHAT IT READS IS OF BULK AT MOST 1048576: true; the input reads as it did. -/
def matchPlaysUptoRow : OpenClaim := { program := "ytopopdghmfbciaadoor", sum := "1bfa44632f27840faa1f49211ae52d2f2609aba4ca2977c0107ba5643d150f37", func := "crier/crierlaw18.MatchPlays", spec := "matchPlays", inPlace := ["internal/bytealg.CountString", "internal/bytealg.IndexByteString", "internal/bytealg.IndexString"], unfollowed := true, recurses := true, named := ["unicode/utf8.first", "unicode/utf8.acceptRanges", "internal/bytealg.MaxLen"], apart := false, laid := [("unicode/utf8.acceptRanges", laid_unicode_utf8_acceptRanges), ("unicode/utf8.first", laid_unicode_utf8_first)], narrowed := true }
def MatchPlaysUptoSaid : Prop := matchPlaysUptoRow.holds Tryd.pinned (OpenSpec.upto matchPlaysSpec)

/-- 'crierlaw18.MatchCovers', WHERE WHAT IT READS IS OF BULK AT MOST 1048576: true; the input reads as it did. -/
def matchCoversUptoRow : OpenClaim := { program := "ytopopdghmfbciaadoor", sum := "1bfa44632f27840faa1f49211ae52d2f2609aba4ca2977c0107ba5643d150f37", func := "crier/crierlaw18.MatchCovers", spec := "matchCovers", inPlace := ["internal/bytealg.CountString", "internal/bytealg.IndexByteString", "internal/bytealg.IndexString"], unfollowed := true, recurses := true, named := ["unicode/utf8.first", "unicode/utf8.acceptRanges", "internal/bytealg.MaxLen"], apart := false, laid := [("unicode/utf8.acceptRanges", laid_unicode_utf8_acceptRanges), ("unicode/utf8.first", laid_unicode_utf8_first)], narrowed := true }
def MatchCoversUptoSaid : Prop := matchCoversUptoRow.holds Tryd.pinned (OpenSpec.upto matchCoversSpec)

/-- 'crierlaw17.LevelBack', WHERE WHAT IT READS IS OF BULK AT MOST 1048576: true; the input reads as it did. -/
def levelBackUptoRow : OpenClaim := { program := "ytopopdghmfbciaadoor", sum := "1bfa44632f27840faa1f49211ae52d2f2609aba4ca2977c0107ba5643d150f37", func := "crier/crierlaw17.LevelBack", spec := "levelBack", inPlace := ["internal/bytealg.CountString", "internal/bytealg.IndexByteString", "internal/bytealg.IndexString", "internal/abi.NoEscape", "internal/bytealg.MakeNoZero"], named := ["internal/bytealg.MaxLen", "unicode/utf8.first", "unicode/utf8.acceptRanges"], apart := false, laid := [("unicode/utf8.acceptRanges", laid_unicode_utf8_acceptRanges), ("unicode/utf8.first", laid_unicode_utf8_first)], narrowed := true }
def LevelBackUptoSaid : Prop := levelBackUptoRow.holds Tryd.pinned (OpenSpec.upto levelBackSpec)

/-- 'crierlaw17.LevelPlays', WHERE WHAT IT READS IS OF BULK AT MOST 1048576: true; the input reads as it did. -/
def levelPlaysUptoRow : OpenClaim := { program := "ytopopdghmfbciaadoor", sum := "1bfa44632f27840faa1f49211ae52d2f2609aba4ca2977c0107ba5643d150f37", func := "crier/crierlaw17.LevelPlays", spec := "levelPlays", inPlace := ["internal/bytealg.CountString", "internal/bytealg.IndexByteString", "internal/bytealg.IndexString", "internal/abi.NoEscape", "internal/bytealg.MakeNoZero"], named := ["internal/bytealg.MaxLen", "unicode/utf8.first", "unicode/utf8.acceptRanges"], apart := false, laid := [("unicode/utf8.acceptRanges", laid_unicode_utf8_acceptRanges), ("unicode/utf8.first", laid_unicode_utf8_first)], narrowed := true }
def LevelPlaysUptoSaid : Prop := levelPlaysUptoRow.holds Tryd.pinned (OpenSpec.upto levelPlaysSpec)

/-- 'crierlaw20.SpaceBack', WHERE WHAT IT READS IS OF BULK AT MOST 1048576: true; the input reads as it did. -/
def spaceBackUptoRow : OpenClaim := { program := "ytopopdghmfbciaadoor", sum := "1bfa44632f27840faa1f49211ae52d2f2609aba4ca2977c0107ba5643d150f37", func := "crier/crierlaw20.SpaceBack", spec := "spaceBack", inPlace := ["internal/bytealg.CountString", "internal/bytealg.IndexByteString", "internal/bytealg.IndexString", "internal/abi.NoEscape", "internal/bytealg.MakeNoZero"], named := ["crier/space.words", "unicode/utf8.first", "unicode/utf8.acceptRanges", "internal/bytealg.MaxLen"], apart := false, laid := [("unicode/utf8.acceptRanges", laid_unicode_utf8_acceptRanges), ("crier/space.words", laid_crier_space_words), ("unicode/utf8.first", laid_unicode_utf8_first)], narrowed := true }
def SpaceBackUptoSaid : Prop := spaceBackUptoRow.holds Tryd.pinned (OpenSpec.upto spaceBackSpec)

/-- 'crierlaw20.SpaceOne', WHERE WHAT IT READS IS OF BULK AT MOST 1048576: true; the input reads as it did. -/
def spaceOneUptoRow : OpenClaim := { program := "ytopopdghmfbciaadoor", sum := "1bfa44632f27840faa1f49211ae52d2f2609aba4ca2977c0107ba5643d150f37", func := "crier/crierlaw20.SpaceOne", spec := "spaceOne", inPlace := ["internal/bytealg.CountString", "internal/bytealg.IndexByteString", "internal/bytealg.IndexString", "internal/abi.NoEscape", "internal/bytealg.MakeNoZero"], named := ["crier/space.words", "unicode/utf8.first", "unicode/utf8.acceptRanges", "internal/bytealg.MaxLen"], apart := false, laid := [("unicode/utf8.acceptRanges", laid_unicode_utf8_acceptRanges), ("crier/space.words", laid_crier_space_words), ("unicode/utf8.first", laid_unicode_utf8_first)], narrowed := true }
def SpaceOneUptoSaid : Prop := spaceOneUptoRow.holds Tryd.pinned (OpenSpec.upto spaceOneSpec)

/-- 'crierlaw20.SpaceWords', WHERE WHAT IT READS IS OF BULK AT MOST 1048576: true; the input reads as it did. -/
def spaceWordsUptoRow : OpenClaim := { program := "ytopopdghmfbciaadoor", sum := "1bfa44632f27840faa1f49211ae52d2f2609aba4ca2977c0107ba5643d150f37", func := "crier/crierlaw20.SpaceWords", spec := "spaceWords", inPlace := ["internal/bytealg.CountString", "internal/bytealg.IndexByteString", "internal/bytealg.IndexString", "internal/abi.NoEscape", "internal/bytealg.MakeNoZero"], named := ["crier/space.words", "internal/bytealg.MaxLen", "unicode/utf8.first", "unicode/utf8.acceptRanges"], apart := false, laid := [("unicode/utf8.acceptRanges", laid_unicode_utf8_acceptRanges), ("crier/space.words", laid_crier_space_words), ("unicode/utf8.first", laid_unicode_utf8_first)], narrowed := true }
def SpaceWordsUptoSaid : Prop := spaceWordsUptoRow.holds Tryd.pinned (OpenSpec.upto spaceWordsSpec)

/-- 'crierlaw20.SpacePlays', WHERE WHAT IT READS IS OF BULK AT MOST 1048576: true; the input reads as it did. -/
def spacePlaysUptoRow : OpenClaim := { program := "ytopopdghmfbciaadoor", sum := "1bfa44632f27840faa1f49211ae52d2f2609aba4ca2977c0107ba5643d150f37", func := "crier/crierlaw20.SpacePlays", spec := "spacePlays", inPlace := ["internal/bytealg.CountString", "internal/bytealg.IndexByteString", "internal/bytealg.IndexString", "internal/abi.NoEscape", "internal/bytealg.MakeNoZero"], named := ["crier/space.words", "unicode/utf8.first", "unicode/utf8.acceptRanges", "internal/bytealg.MaxLen"], apart := false, laid := [("unicode/utf8.acceptRanges", laid_unicode_utf8_acceptRanges), ("crier/space.words", laid_crier_space_words), ("unicode/utf8.first", laid_unicode_utf8_first)], narrowed := true }
def SpacePlaysUptoSaid : Prop := spacePlaysUptoRow.holds Tryd.pinned (OpenSpec.upto spacePlaysSpec)

/-- 'crierlaw20.SpaceBirths', WHERE WHAT IT READS IS OF BULK AT MOST 1048576: true; the input reads as it did. -/
def spaceBirthsUptoRow : OpenClaim := { program := "ytopopdghmfbciaadoor", sum := "1bfa44632f27840faa1f49211ae52d2f2609aba4ca2977c0107ba5643d150f37", func := "crier/crierlaw20.SpaceBirths", spec := "spaceBirths", inPlace := ["internal/bytealg.CountString", "internal/bytealg.IndexByteString", "internal/bytealg.IndexString", "internal/abi.NoEscape", "internal/bytealg.MakeNoZero"], named := ["crier/space.words", "unicode/utf8.first", "unicode/utf8.acceptRanges", "internal/bytealg.MaxLen"], apart := false, laid := [("unicode/utf8.acceptRanges", laid_unicode_utf8_acceptRanges), ("crier/space.words", laid_crier_space_words), ("unicode/utf8.first", laid_unicode_utf8_first)], narrowed := true }
def SpaceBirthsUptoSaid : Prop := spaceBirthsUptoRow.holds Tryd.pinned (OpenSpec.upto spaceBirthsSpec)

end Rows
end Go.Proofs.YtopopdghmfbciaaDoor
