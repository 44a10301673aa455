/-
  NARROWER THAN 'FOR EVERY INPUT', by the rows' own cells (each row's printed sentence says how): PacketPuts: laid · PacketSame: laid · BirthsLast: laid · BirthsOrder: laid · BirthsZero: laid · PacketReads: laid · PacketBack: laid.
  DERIVED. THE GIVEN ROWS OF THIS SEAT. 7 by the template 'for every input the law returns true; each argument reads behind the call as it read before'; 0 by the template 'total and deterministic' (their statements: YtclicjokgfiegaaDoorTotals.lean).
  GIVEN WITH THE SEED: the statements are not yours to turn. If you find one false, say at which input.
  Laid BY PROGRAM, IN A SANDBOX (cutbox-rows.mjs): the forced cells as the released guide's own fill.sh prints them over the translation 4d036a6a0944ffc4… (all of the seat's roots in one cut). By AI agents, Wed Nov 11 2026. No macro, syntax, notation, axiom, sorry.
-/
import Derived.Test.YtclicjokgfiegaaDoorChecked
import GoSem.PinnedTables
import GoSem.Claim
import GoSem.ClaimJoined
import GoSem.ClaimMapViews
import Derived.JoinedTies
import Derived.KernelRfl
namespace Go.Proofs.YtclicjokgfiegaaDoor
/- THE CELL 'sum', in the pinned program and in every row, IS THE sha256 OF THE DUMP (.gsa) THAT YtclicjokgfiegaaDoorProg.lean LOADS. Nothing in Lean hashes anything: it is a label: what it is worth is what the hold of that sum in a sandbox is worth. -/
noncomputable def Tryd.pinned : Pinned := { name := "ytclicjokgfiegaadoor", sum := "4d036a6a0944ffc48b4ceca174d0218b0e59487b23bdd4955ec1345fac9a97e3", checked := Tryd.checked }
namespace Rows
def none {H : Type} : Left H := { results := [], args := [] }

/- WHAT THE LISTED PACKAGE-LEVEL VARIABLES READ AS WHEN THE CALL BEGINS. Each datum BY PROGRAM (the guide's laid-datum.mjs) off the statement by which the dump's own 'gosem.cut.vars' lays the variable. In a bare row this is a premise. The card (YtclicjokgfiegaaDoorCards.lean) ties it to the program's text. -/
def laid_crier_head_may {H : Type} : DataW H := .agg [.lit (.bool true), .lit (.bool true), .lit (.bool true), .lit (.bool true), .lit (.bool true), .lit (.bool true), .lit (.bool false), .lit (.bool false), .lit (.bool false), .lit (.bool false), .lit (.bool true), .lit (.bool true), .lit (.bool true), .lit (.bool true), .lit (.bool false), .lit (.bool false)]
def laid_unicode_utf8_acceptRanges {H : Type} : DataW H := .agg [.agg [.lit (.int .u8 128), .lit (.int .u8 191)], .agg [.lit (.int .u8 160), .lit (.int .u8 191)], .agg [.lit (.int .u8 128), .lit (.int .u8 159)], .agg [.lit (.int .u8 144), .lit (.int .u8 191)], .agg [.lit (.int .u8 128), .lit (.int .u8 143)], .agg [.lit (.int .u8 0), .lit (.int .u8 0)], .agg [.lit (.int .u8 0), .lit (.int .u8 0)], .agg [.lit (.int .u8 0), .lit (.int .u8 0)], .agg [.lit (.int .u8 0), .lit (.int .u8 0)], .agg [.lit (.int .u8 0), .lit (.int .u8 0)], .agg [.lit (.int .u8 0), .lit (.int .u8 0)], .agg [.lit (.int .u8 0), .lit (.int .u8 0)], .agg [.lit (.int .u8 0), .lit (.int .u8 0)], .agg [.lit (.int .u8 0), .lit (.int .u8 0)], .agg [.lit (.int .u8 0), .lit (.int .u8 0)], .agg [.lit (.int .u8 0), .lit (.int .u8 0)]]
/-- One of Go's own tables, pinned by name: the form's constant. -/
def laid_unicode_utf8_first : DataW Unit := Go.Pinned.utf8First
def laid_crier_space_words {H : Type} : DataW H := .agg [.lit (.string []), .lit (.string [78, 66, 73, 82, 84, 72]), .lit (.string [78, 68, 69, 65, 84, 72]), .lit (.string [78, 68, 65, 84, 65]), .lit (.string [78, 67, 77, 68]), .lit (.string [68, 66, 73, 82, 84, 72]), .lit (.string [68, 68, 69, 65, 84, 72]), .lit (.string [68, 68, 65, 84, 65]), .lit (.string [68, 67, 77, 68]), .lit (.string [83, 84, 65, 84, 69])]

/-- 'crierlaw16.PacketPuts': WHATEVER THE INPUT: true; the input reads as it did. -/
def packetPutsSpec : ChangeSpec := { name := "packetPuts", fn := fun _ => fun
  | [d] => { results := [.lit (.bool true)], args := [d] }
  | _ => none }
def packetPutsRow : OpenClaim := { program := "ytclicjokgfiegaadoor", sum := "4d036a6a0944ffc48b4ceca174d0218b0e59487b23bdd4955ec1345fac9a97e3", func := "crier/crierlaw16.PacketPuts", spec := "packetPuts", unfollowed := true, recurses := true, named := ["unicode/utf8.first", "unicode/utf8.acceptRanges", "crier/head.may"], apart := false, laid := [("crier/head.may", laid_crier_head_may), ("unicode/utf8.acceptRanges", laid_unicode_utf8_acceptRanges), ("unicode/utf8.first", laid_unicode_utf8_first)] }
def PacketPutsSaid : Prop := packetPutsRow.holds Tryd.pinned (OpenSpec.ofChange packetPutsSpec)

/-- ITS FALSE NEIGHBOUR: 'it returns false'. Refute it at one input. -/
def packetPutsWrong : ChangeSpec := { name := "packetPuts", fn := fun _ => fun
  | [d] => { results := [.lit (.bool false)], args := [d] }
  | _ => none }
def PacketPutsWrongFalsely : Prop := packetPutsRow.holds Tryd.pinned (OpenSpec.ofChange packetPutsWrong)

/-- 'crierlaw16.PacketSame': WHATEVER THE INPUT: true; the input reads as it did. -/
def packetSameSpec : ChangeSpec := { name := "packetSame", fn := fun _ => fun
  | [d1, d2] => { results := [.lit (.bool true)], args := [d1, d2] }
  | _ => none }
def packetSameRow : OpenClaim := { program := "ytclicjokgfiegaadoor", sum := "4d036a6a0944ffc48b4ceca174d0218b0e59487b23bdd4955ec1345fac9a97e3", func := "crier/crierlaw16.PacketSame", spec := "packetSame", unfollowed := true, recurses := true, named := ["unicode/utf8.first", "unicode/utf8.acceptRanges", "crier/head.may"], apart := false, laid := [("crier/head.may", laid_crier_head_may), ("unicode/utf8.acceptRanges", laid_unicode_utf8_acceptRanges), ("unicode/utf8.first", laid_unicode_utf8_first)] }
def PacketSameSaid : Prop := packetSameRow.holds Tryd.pinned (OpenSpec.ofChange packetSameSpec)

/-- ITS FALSE NEIGHBOUR: 'it returns false'. Refute it at one input. -/
def packetSameWrong : ChangeSpec := { name := "packetSame", fn := fun _ => fun
  | [d1, d2] => { results := [.lit (.bool false)], args := [d1, d2] }
  | _ => none }
def PacketSameWrongFalsely : Prop := packetSameRow.holds Tryd.pinned (OpenSpec.ofChange packetSameWrong)

/-- 'crierlaw36.BirthsLast': WHATEVER THE INPUT: true; the input reads as it did. -/
def birthsLastSpec : ChangeSpec := { name := "birthsLast", fn := fun _ => fun
  | [d1, d2, d3, d4, d5] => { results := [.lit (.bool true)], args := [d1, d2, d3, d4, d5] }
  | _ => none }
def birthsLastRow : OpenClaim := { program := "ytclicjokgfiegaadoor", sum := "4d036a6a0944ffc48b4ceca174d0218b0e59487b23bdd4955ec1345fac9a97e3", func := "crier/crierlaw36.BirthsLast", spec := "birthsLast", inPlace := ["internal/bytealg.CountString", "internal/bytealg.IndexByteString", "internal/bytealg.IndexString", "internal/abi.NoEscape", "internal/bytealg.MakeNoZero", "slices.overlaps[crier/births.birth]"], unfollowed := true, recurses := true, named := ["crier/space.words", "unicode/utf8.first", "unicode/utf8.acceptRanges", "internal/bytealg.MaxLen"], apart := false, laid := [("unicode/utf8.acceptRanges", laid_unicode_utf8_acceptRanges), ("crier/space.words", laid_crier_space_words), ("unicode/utf8.first", laid_unicode_utf8_first)] }
def BirthsLastSaid : Prop := birthsLastRow.holds Tryd.pinned (OpenSpec.ofChange birthsLastSpec)

/-- ITS FALSE NEIGHBOUR: 'it returns false'. Refute it at one input. -/
def birthsLastWrong : ChangeSpec := { name := "birthsLast", fn := fun _ => fun
  | [d1, d2, d3, d4, d5] => { results := [.lit (.bool false)], args := [d1, d2, d3, d4, d5] }
  | _ => none }
def BirthsLastWrongFalsely : Prop := birthsLastRow.holds Tryd.pinned (OpenSpec.ofChange birthsLastWrong)

/-- 'crierlaw36.BirthsOrder': WHATEVER THE INPUT: true; the input reads as it did. -/
def birthsOrderSpec : ChangeSpec := { name := "birthsOrder", fn := fun _ => fun
  | [d1, d2] => { results := [.lit (.bool true)], args := [d1, d2] }
  | _ => none }
def birthsOrderRow : OpenClaim := { program := "ytclicjokgfiegaadoor", sum := "4d036a6a0944ffc48b4ceca174d0218b0e59487b23bdd4955ec1345fac9a97e3", func := "crier/crierlaw36.BirthsOrder", spec := "birthsOrder", inPlace := ["internal/bytealg.CountString", "internal/bytealg.IndexByteString", "internal/bytealg.IndexString", "internal/abi.NoEscape", "internal/bytealg.MakeNoZero", "slices.overlaps[crier/births.birth]"], unfollowed := true, recurses := true, named := ["internal/bytealg.MaxLen", "crier/space.words", "unicode/utf8.first", "unicode/utf8.acceptRanges"], apart := false, laid := [("unicode/utf8.acceptRanges", laid_unicode_utf8_acceptRanges), ("crier/space.words", laid_crier_space_words), ("unicode/utf8.first", laid_unicode_utf8_first)] }
def BirthsOrderSaid : Prop := birthsOrderRow.holds Tryd.pinned (OpenSpec.ofChange birthsOrderSpec)

/-- ITS FALSE NEIGHBOUR: 'it returns false'. Refute it at one input. -/
def birthsOrderWrong : ChangeSpec := { name := "birthsOrder", fn := fun _ => fun
  | [d1, d2] => { results := [.lit (.bool false)], args := [d1, d2] }
  | _ => none }
def BirthsOrderWrongFalsely : Prop := birthsOrderRow.holds Tryd.pinned (OpenSpec.ofChange birthsOrderWrong)

/-- 'crierlaw36.BirthsZero': WHATEVER THE INPUT: true; the input reads as it did. -/
def birthsZeroSpec : ChangeSpec := { name := "birthsZero", fn := fun _ => fun
  | [d] => { results := [.lit (.bool true)], args := [d] }
  | _ => none }
def birthsZeroRow : OpenClaim := { program := "ytclicjokgfiegaadoor", sum := "4d036a6a0944ffc48b4ceca174d0218b0e59487b23bdd4955ec1345fac9a97e3", func := "crier/crierlaw36.BirthsZero", spec := "birthsZero", inPlace := ["internal/bytealg.CountString", "internal/bytealg.IndexByteString", "internal/bytealg.IndexString", "internal/abi.NoEscape", "internal/bytealg.MakeNoZero", "slices.overlaps[crier/births.birth]"], unfollowed := true, recurses := true, named := ["internal/bytealg.MaxLen", "crier/space.words", "unicode/utf8.first", "unicode/utf8.acceptRanges"], apart := false, laid := [("unicode/utf8.acceptRanges", laid_unicode_utf8_acceptRanges), ("crier/space.words", laid_crier_space_words), ("unicode/utf8.first", laid_unicode_utf8_first)] }
def BirthsZeroSaid : Prop := birthsZeroRow.holds Tryd.pinned (OpenSpec.ofChange birthsZeroSpec)

/-- ITS FALSE NEIGHBOUR: 'it returns false'. Refute it at one input. -/
def birthsZeroWrong : ChangeSpec := { name := "birthsZero", fn := fun _ => fun
  | [d] => { results := [.lit (.bool false)], args := [d] }
  | _ => none }
def BirthsZeroWrongFalsely : Prop := birthsZeroRow.holds Tryd.pinned (OpenSpec.ofChange birthsZeroWrong)

/-- 'crierlaw16.PacketReads': WHATEVER THE INPUT: true; the input reads as it did. -/
def packetReadsSpec : ChangeSpec := { name := "packetReads", fn := fun _ => fun
  | [d] => { results := [.lit (.bool true)], args := [d] }
  | _ => none }
def packetReadsRow : OpenClaim := { program := "ytclicjokgfiegaadoor", sum := "4d036a6a0944ffc48b4ceca174d0218b0e59487b23bdd4955ec1345fac9a97e3", func := "crier/crierlaw16.PacketReads", spec := "packetReads", unfollowed := true, recurses := true, named := ["crier/head.may", "unicode/utf8.first", "unicode/utf8.acceptRanges"], apart := false, laid := [("crier/head.may", laid_crier_head_may), ("unicode/utf8.acceptRanges", laid_unicode_utf8_acceptRanges), ("unicode/utf8.first", laid_unicode_utf8_first)] }
def PacketReadsSaid : Prop := packetReadsRow.holds Tryd.pinned (OpenSpec.ofChange packetReadsSpec)

/-- ITS FALSE NEIGHBOUR: 'it returns false'. Refute it at one input. -/
def packetReadsWrong : ChangeSpec := { name := "packetReads", fn := fun _ => fun
  | [d] => { results := [.lit (.bool false)], args := [d] }
  | _ => none }
def PacketReadsWrongFalsely : Prop := packetReadsRow.holds Tryd.pinned (OpenSpec.ofChange packetReadsWrong)

/-- 'crierlaw16.PacketBack': WHATEVER THE INPUT: true; the input reads as it did. -/
def packetBackSpec : ChangeSpec := { name := "packetBack", fn := fun _ => fun
  | [d] => { results := [.lit (.bool true)], args := [d] }
  | _ => none }
def packetBackRow : OpenClaim := { program := "ytclicjokgfiegaadoor", sum := "4d036a6a0944ffc48b4ceca174d0218b0e59487b23bdd4955ec1345fac9a97e3", func := "crier/crierlaw16.PacketBack", spec := "packetBack", unfollowed := true, recurses := true, named := ["unicode/utf8.first", "unicode/utf8.acceptRanges", "crier/head.may"], apart := false, laid := [("crier/head.may", laid_crier_head_may), ("unicode/utf8.acceptRanges", laid_unicode_utf8_acceptRanges), ("unicode/utf8.first", laid_unicode_utf8_first)] }
def PacketBackSaid : Prop := packetBackRow.holds Tryd.pinned (OpenSpec.ofChange packetBackSpec)

/-- ITS FALSE NEIGHBOUR: 'it returns false'. Refute it at one input. -/
def packetBackWrong : ChangeSpec := { name := "packetBack", fn := fun _ => fun
  | [d] => { results := [.lit (.bool false)], args := [d] }
  | _ => none }
def PacketBackWrongFalsely : Prop := packetBackRow.holds Tryd.pinned (OpenSpec.ofChange packetBackWrong)

/- THE SECOND FORM. 'bulk': how many values and letters a reading holds, each counted each time it is reached (what is shared counts as often as it is met; a slice's spare places count too). A statement '..UptoSaid' is the law's where the arguments, and the package variables that the reading takes, are together of bulk at most 1048576: NARROWER than '..Said'. Prove '..Said' where nothing that the law and all that it calls make is longer than what came in: it says more and counts as full. Else prove '..UptoSaid'. A law counts once. -/
mutual
def uptoBulk {H : Type} : DataW H → Nat
  | .lit (.string bytes) => bytes.length + 1
  | .lit _ => 1
  | .nil => 1
  | .ptr d => uptoBulk d + 1
  | .slice elems spare => uptoBulkAll elems + uptoBulkAll spare + 1
  | .agg parts => uptoBulkAll parts + 1
  | .iface _ d => uptoBulk d + 1
  | .map entries => uptoBulkEntries entries + 1
  | .held _ => 1
def uptoBulkAll {H : Type} : List (DataW H) → Nat
  | [] => 0
  | d :: r => uptoBulk d + uptoBulkAll r
def uptoBulkEntries {H : Type} : List (Lit × DataW H) → Nat
  | [] => 0
  | x :: r => uptoBulkEntry x + uptoBulkEntries r
def uptoBulkEntry {H : Type} : Lit × DataW H → Nat
  | (.string bytes, d) => bytes.length + uptoBulk d + 1
  | (_, d) => uptoBulk d + 1
 end
def uptoSmall : (H : Type) → List (DataW H) → Bool := fun _ ds => decide (uptoBulkAll ds ≤ 1048576)
def OpenSpec.upto (s : _root_.Go.ChangeSpec) : _root_.Go.OpenSpec := { _root_.Go.OpenSpec.ofChange s with cond := some uptoSmall }

/-- 'crierlaw16.PacketPuts', WHERE WHAT IT READS IS OF BULK AT MOST 1048576: true; the input reads as it did. -/
def packetPutsUptoRow : OpenClaim := { program := "ytclicjokgfiegaadoor", sum := "4d036a6a0944ffc48b4ceca174d0218b0e59487b23bdd4955ec1345fac9a97e3", func := "crier/crierlaw16.PacketPuts", spec := "packetPuts", unfollowed := true, recurses := true, named := ["unicode/utf8.first", "unicode/utf8.acceptRanges", "crier/head.may"], apart := false, laid := [("crier/head.may", laid_crier_head_may), ("unicode/utf8.acceptRanges", laid_unicode_utf8_acceptRanges), ("unicode/utf8.first", laid_unicode_utf8_first)], narrowed := true }
def PacketPutsUptoSaid : Prop := packetPutsUptoRow.holds Tryd.pinned (OpenSpec.upto packetPutsSpec)

/-- 'crierlaw16.PacketSame', WHERE WHAT IT READS IS OF BULK AT MOST 1048576: true; the input reads as it did. -/
def packetSameUptoRow : OpenClaim := { program := "ytclicjokgfiegaadoor", sum := "4d036a6a0944ffc48b4ceca174d0218b0e59487b23bdd4955ec1345fac9a97e3", func := "crier/crierlaw16.PacketSame", spec := "packetSame", unfollowed := true, recurses := true, named := ["unicode/utf8.first", "unicode/utf8.acceptRanges", "crier/head.may"], apart := false, laid := [("crier/head.may", laid_crier_head_may), ("unicode/utf8.acceptRanges", laid_unicode_utf8_acceptRanges), ("unicode/utf8.first", laid_unicode_utf8_first)], narrowed := true }
def PacketSameUptoSaid : Prop := packetSameUptoRow.holds Tryd.pinned (OpenSpec.upto packetSameSpec)

/-- 'crierlaw36.BirthsLast', WHERE WHAT IT READS IS OF BULK AT MOST 1048576: true; the input reads as it did. -/
def birthsLastUptoRow : OpenClaim := { program := "ytclicjokgfiegaadoor", sum := "4d036a6a0944ffc48b4ceca174d0218b0e59487b23bdd4955ec1345fac9a97e3", func := "crier/crierlaw36.BirthsLast", spec := "birthsLast", inPlace := ["internal/bytealg.CountString", "internal/bytealg.IndexByteString", "internal/bytealg.IndexString", "internal/abi.NoEscape", "internal/bytealg.MakeNoZero", "slices.overlaps[crier/births.birth]"], unfollowed := true, recurses := true, named := ["crier/space.words", "unicode/utf8.first", "unicode/utf8.acceptRanges", "internal/bytealg.MaxLen"], apart := false, laid := [("unicode/utf8.acceptRanges", laid_unicode_utf8_acceptRanges), ("crier/space.words", laid_crier_space_words), ("unicode/utf8.first", laid_unicode_utf8_first)], narrowed := true }
def BirthsLastUptoSaid : Prop := birthsLastUptoRow.holds Tryd.pinned (OpenSpec.upto birthsLastSpec)

/-- 'crierlaw36.BirthsOrder', WHERE WHAT IT READS IS OF BULK AT MOST 1048576: true; the input reads as it did. -/
def birthsOrderUptoRow : OpenClaim := { program := "ytclicjokgfiegaadoor", sum := "4d036a6a0944ffc48b4ceca174d0218b0e59487b23bdd4955ec1345fac9a97e3", func := "crier/crierlaw36.BirthsOrder", spec := "birthsOrder", inPlace := ["internal/bytealg.CountString", "internal/bytealg.IndexByteString", "internal/bytealg.IndexString", "internal/abi.NoEscape", "internal/bytealg.MakeNoZero", "slices.overlaps[crier/births.birth]"], unfollowed := true, recurses := true, named := ["internal/bytealg.MaxLen", "crier/space.words", "unicode/utf8.first", "unicode/utf8.acceptRanges"], apart := false, laid := [("unicode/utf8.acceptRanges", laid_unicode_utf8_acceptRanges), ("crier/space.words", laid_crier_space_words), ("unicode/utf8.first", laid_unicode_utf8_first)], narrowed := true }
def BirthsOrderUptoSaid : Prop := birthsOrderUptoRow.holds Tryd.pinned (OpenSpec.upto birthsOrderSpec)

/-- 'crierlaw36.BirthsZero', WHERE WHAT IT READS IS OF BULK AT MOST 1048576: true; the input reads as it did. -/
def birthsZeroUptoRow : OpenClaim := { program := "ytclicjokgfiegaadoor", sum := "4d036a6a0944ffc48b4ceca174d0218b0e59487b23bdd4955ec1345fac9a97e3", func := "crier/crierlaw36.BirthsZero", spec := "birthsZero", inPlace := ["internal/bytealg.CountString", "internal/bytealg.IndexByteString", "internal/bytealg.IndexString", "internal/abi.NoEscape", "internal/bytealg.MakeNoZero", "slices.overlaps[crier/births.birth]"], unfollowed := true, recurses := true, named := ["internal/bytealg.MaxLen", "crier/space.words", "unicode/utf8.first", "unicode/utf8.acceptRanges"], apart := false, laid := [("unicode/utf8.acceptRanges", laid_unicode_utf8_acceptRanges), ("crier/space.words", laid_crier_space_words), ("unicode/utf8.first", laid_unicode_utf8_first)], narrowed := true }
def BirthsZeroUptoSaid : Prop := birthsZeroUptoRow.holds Tryd.pinned (OpenSpec.upto birthsZeroSpec)

/-- 'crierlaw16.PacketReads', WHERE WHAT IT READS IS OF BULK AT MOST 1048576: true; the input reads as it did. -/
def packetReadsUptoRow : OpenClaim := { program := "ytclicjokgfiegaadoor", sum := "4d036a6a0944ffc48b4ceca174d0218b0e59487b23bdd4955ec1345fac9a97e3", func := "crier/crierlaw16.PacketReads", spec := "packetReads", unfollowed := true, recurses := true, named := ["crier/head.may", "unicode/utf8.first", "unicode/utf8.acceptRanges"], apart := false, laid := [("crier/head.may", laid_crier_head_may), ("unicode/utf8.acceptRanges", laid_unicode_utf8_acceptRanges), ("unicode/utf8.first", laid_unicode_utf8_first)], narrowed := true }
def PacketReadsUptoSaid : Prop := packetReadsUptoRow.holds Tryd.pinned (OpenSpec.upto packetReadsSpec)

/-- 'crierlaw16.PacketBack', WHERE WHAT IT READS IS OF BULK AT MOST 1048576: true; the input reads as it did. -/
def packetBackUptoRow : OpenClaim := { program := "ytclicjokgfiegaadoor", sum := "4d036a6a0944ffc48b4ceca174d0218b0e59487b23bdd4955ec1345fac9a97e3", func := "crier/crierlaw16.PacketBack", spec := "packetBack", unfollowed := true, recurses := true, named := ["unicode/utf8.first", "unicode/utf8.acceptRanges", "crier/head.may"], apart := false, laid := [("crier/head.may", laid_crier_head_may), ("unicode/utf8.acceptRanges", laid_unicode_utf8_acceptRanges), ("unicode/utf8.first", laid_unicode_utf8_first)], narrowed := true }
def PacketBackUptoSaid : Prop := packetBackUptoRow.holds Tryd.pinned (OpenSpec.upto packetBackSpec)

end Rows
end Go.Proofs.YtclicjokgfiegaaDoor
