/-
  NARROWER THAN 'FOR EVERY INPUT', by the rows' own cells (each row's printed sentence says how): UtfTexts: laid · UtfJoins: laid · UtfReads: laid · UtfBack: laid · PublishPuts: laid · ConnectPuts: laid · PublishIds: laid · ConnectAcks: laid · PublishReads: laid · PublishBack: laid · ConnectReads: laid · ConnectBack: laid.
  DERIVED. THE GIVEN ROWS OF THIS SEAT. 12 by the template 'for every input the law returns true; each argument reads behind the call as it read before'; 0 by the template 'total and deterministic' (their statements: YtinfcjnmloglhaaDoorTotals.lean).
  GIVEN WITH THE SEED: the statements are not yours to turn. If you find one false, say at which input.
  Laid BY PROGRAM, IN A SANDBOX (cutbox-rows.mjs): the forced cells as the released guide's own fill.sh prints them over the translation f0cff58b27f762ee… (all of the seat's roots in one cut). By AI agents, Wed Nov 11 2026. No macro, syntax, notation, axiom, sorry.
-/
import Derived.Test.YtinfcjnmloglhaaDoorChecked
import GoSem.PinnedTables
import GoSem.Claim
import GoSem.ClaimJoined
import GoSem.ClaimMapViews
import Derived.JoinedTies
import Derived.KernelRfl
namespace Go.Proofs.YtinfcjnmloglhaaDoor
/- THE CELL 'sum', in the pinned program and in every row, IS THE sha256 OF THE DUMP (.gsa) THAT YtinfcjnmloglhaaDoorProg.lean LOADS. Nothing in Lean hashes anything: it is a label: what it is worth is what the hold of that sum in a sandbox is worth. -/
noncomputable def Tryd.pinned : Pinned := { name := "ytinfcjnmloglhaadoor", sum := "f0cff58b27f762eec7335d4b9e0e1ce45b981aabe1962c649dccf9c0e6244ac8", checked := Tryd.checked }
namespace Rows
def none {H : Type} : Left H := { results := [], args := [] }

/- WHAT THE LISTED PACKAGE-LEVEL VARIABLES READ AS WHEN THE CALL BEGINS. Each datum BY PROGRAM (the guide's laid-datum.mjs) off the statement by which the dump's own 'gosem.cut.vars' lays the variable. In a bare row this is a premise. The card (YtinfcjnmloglhaaDoorCards.lean) ties it to the program's text. -/
def laid_unicode_utf8_acceptRanges {H : Type} : DataW H := .agg [.agg [.lit (.int .u8 128), .lit (.int .u8 191)], .agg [.lit (.int .u8 160), .lit (.int .u8 191)], .agg [.lit (.int .u8 128), .lit (.int .u8 159)], .agg [.lit (.int .u8 144), .lit (.int .u8 191)], .agg [.lit (.int .u8 128), .lit (.int .u8 143)], .agg [.lit (.int .u8 0), .lit (.int .u8 0)], .agg [.lit (.int .u8 0), .lit (.int .u8 0)], .agg [.lit (.int .u8 0), .lit (.int .u8 0)], .agg [.lit (.int .u8 0), .lit (.int .u8 0)], .agg [.lit (.int .u8 0), .lit (.int .u8 0)], .agg [.lit (.int .u8 0), .lit (.int .u8 0)], .agg [.lit (.int .u8 0), .lit (.int .u8 0)], .agg [.lit (.int .u8 0), .lit (.int .u8 0)], .agg [.lit (.int .u8 0), .lit (.int .u8 0)], .agg [.lit (.int .u8 0), .lit (.int .u8 0)], .agg [.lit (.int .u8 0), .lit (.int .u8 0)]]
/-- One of Go's own tables, pinned by name: the form's constant. -/
def laid_unicode_utf8_first : DataW Unit := Go.Pinned.utf8First

/-- 'crierlaw04.UtfTexts': WHATEVER THE INPUT: true; the input reads as it did. -/
def utfTextsSpec : ChangeSpec := { name := "utfTexts", fn := fun _ => fun
  | [d] => { results := [.lit (.bool true)], args := [d] }
  | _ => none }
def utfTextsRow : OpenClaim := { program := "ytinfcjnmloglhaadoor", sum := "f0cff58b27f762eec7335d4b9e0e1ce45b981aabe1962c649dccf9c0e6244ac8", func := "crier/crierlaw04.UtfTexts", spec := "utfTexts", named := ["unicode/utf8.first", "unicode/utf8.acceptRanges"], apart := false, laid := [("unicode/utf8.acceptRanges", laid_unicode_utf8_acceptRanges), ("unicode/utf8.first", laid_unicode_utf8_first)] }
def UtfTextsSaid : Prop := utfTextsRow.holds Tryd.pinned (OpenSpec.ofChange utfTextsSpec)

/-- ITS FALSE NEIGHBOUR: 'it returns false'. Refute it at one input. -/
def utfTextsWrong : ChangeSpec := { name := "utfTexts", fn := fun _ => fun
  | [d] => { results := [.lit (.bool false)], args := [d] }
  | _ => none }
def UtfTextsWrongFalsely : Prop := utfTextsRow.holds Tryd.pinned (OpenSpec.ofChange utfTextsWrong)

/-- 'crierlaw04.UtfJoins': WHATEVER THE INPUT: true; the input reads as it did. -/
def utfJoinsSpec : ChangeSpec := { name := "utfJoins", fn := fun _ => fun
  | [d1, d2, d3] => { results := [.lit (.bool true)], args := [d1, d2, d3] }
  | _ => none }
def utfJoinsRow : OpenClaim := { program := "ytinfcjnmloglhaadoor", sum := "f0cff58b27f762eec7335d4b9e0e1ce45b981aabe1962c649dccf9c0e6244ac8", func := "crier/crierlaw04.UtfJoins", spec := "utfJoins", named := ["unicode/utf8.first", "unicode/utf8.acceptRanges"], apart := false, laid := [("unicode/utf8.acceptRanges", laid_unicode_utf8_acceptRanges), ("unicode/utf8.first", laid_unicode_utf8_first)] }
def UtfJoinsSaid : Prop := utfJoinsRow.holds Tryd.pinned (OpenSpec.ofChange utfJoinsSpec)

/-- ITS FALSE NEIGHBOUR: 'it returns false'. Refute it at one input. -/
def utfJoinsWrong : ChangeSpec := { name := "utfJoins", fn := fun _ => fun
  | [d1, d2, d3] => { results := [.lit (.bool false)], args := [d1, d2, d3] }
  | _ => none }
def UtfJoinsWrongFalsely : Prop := utfJoinsRow.holds Tryd.pinned (OpenSpec.ofChange utfJoinsWrong)

/-- 'crierlaw04.UtfReads': WHATEVER THE INPUT: true; the input reads as it did. -/
def utfReadsSpec : ChangeSpec := { name := "utfReads", fn := fun _ => fun
  | [d1, d2, d3] => { results := [.lit (.bool true)], args := [d1, d2, d3] }
  | _ => none }
def utfReadsRow : OpenClaim := { program := "ytinfcjnmloglhaadoor", sum := "f0cff58b27f762eec7335d4b9e0e1ce45b981aabe1962c649dccf9c0e6244ac8", func := "crier/crierlaw04.UtfReads", spec := "utfReads", named := ["unicode/utf8.first", "unicode/utf8.acceptRanges"], apart := false, laid := [("unicode/utf8.acceptRanges", laid_unicode_utf8_acceptRanges), ("unicode/utf8.first", laid_unicode_utf8_first)] }
def UtfReadsSaid : Prop := utfReadsRow.holds Tryd.pinned (OpenSpec.ofChange utfReadsSpec)

/-- ITS FALSE NEIGHBOUR: 'it returns false'. Refute it at one input. -/
def utfReadsWrong : ChangeSpec := { name := "utfReads", fn := fun _ => fun
  | [d1, d2, d3] => { results := [.lit (.bool false)], args := [d1, d2, d3] }
  | _ => none }
def UtfReadsWrongFalsely : Prop := utfReadsRow.holds Tryd.pinned (OpenSpec.ofChange utfReadsWrong)

/-- 'crierlaw04.UtfBack': WHATEVER THE INPUT: true; the input reads as it did. -/
def utfBackSpec : ChangeSpec := { name := "utfBack", fn := fun _ => fun
  | [d1, d2, d3] => { results := [.lit (.bool true)], args := [d1, d2, d3] }
  | _ => none }
def utfBackRow : OpenClaim := { program := "ytinfcjnmloglhaadoor", sum := "f0cff58b27f762eec7335d4b9e0e1ce45b981aabe1962c649dccf9c0e6244ac8", func := "crier/crierlaw04.UtfBack", spec := "utfBack", named := ["unicode/utf8.first", "unicode/utf8.acceptRanges"], apart := false, laid := [("unicode/utf8.acceptRanges", laid_unicode_utf8_acceptRanges), ("unicode/utf8.first", laid_unicode_utf8_first)] }
def UtfBackSaid : Prop := utfBackRow.holds Tryd.pinned (OpenSpec.ofChange utfBackSpec)

/-- ITS FALSE NEIGHBOUR: 'it returns false'. Refute it at one input. -/
def utfBackWrong : ChangeSpec := { name := "utfBack", fn := fun _ => fun
  | [d1, d2, d3] => { results := [.lit (.bool false)], args := [d1, d2, d3] }
  | _ => none }
def UtfBackWrongFalsely : Prop := utfBackRow.holds Tryd.pinned (OpenSpec.ofChange utfBackWrong)

/-- 'crierlaw14.PublishPuts': WHATEVER THE INPUT: true; the input reads as it did. -/
def publishPutsSpec : ChangeSpec := { name := "publishPuts", fn := fun _ => fun
  | [d1, d2] => { results := [.lit (.bool true)], args := [d1, d2] }
  | _ => none }
def publishPutsRow : OpenClaim := { program := "ytinfcjnmloglhaadoor", sum := "f0cff58b27f762eec7335d4b9e0e1ce45b981aabe1962c649dccf9c0e6244ac8", func := "crier/crierlaw14.PublishPuts", spec := "publishPuts", unfollowed := true, recurses := true, named := ["unicode/utf8.first", "unicode/utf8.acceptRanges"], apart := false, laid := [("unicode/utf8.acceptRanges", laid_unicode_utf8_acceptRanges), ("unicode/utf8.first", laid_unicode_utf8_first)] }
def PublishPutsSaid : Prop := publishPutsRow.holds Tryd.pinned (OpenSpec.ofChange publishPutsSpec)

/-- ITS FALSE NEIGHBOUR: 'it returns false'. Refute it at one input. -/
def publishPutsWrong : ChangeSpec := { name := "publishPuts", fn := fun _ => fun
  | [d1, d2] => { results := [.lit (.bool false)], args := [d1, d2] }
  | _ => none }
def PublishPutsWrongFalsely : Prop := publishPutsRow.holds Tryd.pinned (OpenSpec.ofChange publishPutsWrong)

/-- 'crierlaw13.ConnectPuts': WHATEVER THE INPUT: true; the input reads as it did. -/
def connectPutsSpec : ChangeSpec := { name := "connectPuts", fn := fun _ => fun
  | [d] => { results := [.lit (.bool true)], args := [d] }
  | _ => none }
def connectPutsRow : OpenClaim := { program := "ytinfcjnmloglhaadoor", sum := "f0cff58b27f762eec7335d4b9e0e1ce45b981aabe1962c649dccf9c0e6244ac8", func := "crier/crierlaw13.ConnectPuts", spec := "connectPuts", unfollowed := true, recurses := true, named := ["unicode/utf8.first", "unicode/utf8.acceptRanges"], apart := false, laid := [("unicode/utf8.acceptRanges", laid_unicode_utf8_acceptRanges), ("unicode/utf8.first", laid_unicode_utf8_first)] }
def ConnectPutsSaid : Prop := connectPutsRow.holds Tryd.pinned (OpenSpec.ofChange connectPutsSpec)

/-- ITS FALSE NEIGHBOUR: 'it returns false'. Refute it at one input. -/
def connectPutsWrong : ChangeSpec := { name := "connectPuts", fn := fun _ => fun
  | [d] => { results := [.lit (.bool false)], args := [d] }
  | _ => none }
def ConnectPutsWrongFalsely : Prop := connectPutsRow.holds Tryd.pinned (OpenSpec.ofChange connectPutsWrong)

/-- 'crierlaw14.PublishIds': WHATEVER THE INPUT: true; the input reads as it did. -/
def publishIdsSpec : ChangeSpec := { name := "publishIds", fn := fun _ => fun
  | [d1, d2] => { results := [.lit (.bool true)], args := [d1, d2] }
  | _ => none }
def publishIdsRow : OpenClaim := { program := "ytinfcjnmloglhaadoor", sum := "f0cff58b27f762eec7335d4b9e0e1ce45b981aabe1962c649dccf9c0e6244ac8", func := "crier/crierlaw14.PublishIds", spec := "publishIds", unfollowed := true, recurses := true, named := ["unicode/utf8.first", "unicode/utf8.acceptRanges"], apart := false, laid := [("unicode/utf8.acceptRanges", laid_unicode_utf8_acceptRanges), ("unicode/utf8.first", laid_unicode_utf8_first)] }
def PublishIdsSaid : Prop := publishIdsRow.holds Tryd.pinned (OpenSpec.ofChange publishIdsSpec)

/-- ITS FALSE NEIGHBOUR: 'it returns false'. Refute it at one input. -/
def publishIdsWrong : ChangeSpec := { name := "publishIds", fn := fun _ => fun
  | [d1, d2] => { results := [.lit (.bool false)], args := [d1, d2] }
  | _ => none }
def PublishIdsWrongFalsely : Prop := publishIdsRow.holds Tryd.pinned (OpenSpec.ofChange publishIdsWrong)

/-- 'crierlaw13.ConnectAcks': WHATEVER THE INPUT: true; the input reads as it did. -/
def connectAcksSpec : ChangeSpec := { name := "connectAcks", fn := fun _ => fun
  | [d1, d2, d3] => { results := [.lit (.bool true)], args := [d1, d2, d3] }
  | _ => none }
def connectAcksRow : OpenClaim := { program := "ytinfcjnmloglhaadoor", sum := "f0cff58b27f762eec7335d4b9e0e1ce45b981aabe1962c649dccf9c0e6244ac8", func := "crier/crierlaw13.ConnectAcks", spec := "connectAcks", unfollowed := true, recurses := true, named := ["unicode/utf8.first", "unicode/utf8.acceptRanges"], apart := false, laid := [("unicode/utf8.acceptRanges", laid_unicode_utf8_acceptRanges), ("unicode/utf8.first", laid_unicode_utf8_first)] }
def ConnectAcksSaid : Prop := connectAcksRow.holds Tryd.pinned (OpenSpec.ofChange connectAcksSpec)

/-- ITS FALSE NEIGHBOUR: 'it returns false'. Refute it at one input. -/
def connectAcksWrong : ChangeSpec := { name := "connectAcks", fn := fun _ => fun
  | [d1, d2, d3] => { results := [.lit (.bool false)], args := [d1, d2, d3] }
  | _ => none }
def ConnectAcksWrongFalsely : Prop := connectAcksRow.holds Tryd.pinned (OpenSpec.ofChange connectAcksWrong)

/-- 'crierlaw14.PublishReads': WHATEVER THE INPUT: true; the input reads as it did. -/
def publishReadsSpec : ChangeSpec := { name := "publishReads", fn := fun _ => fun
  | [d1, d2] => { results := [.lit (.bool true)], args := [d1, d2] }
  | _ => none }
def publishReadsRow : OpenClaim := { program := "ytinfcjnmloglhaadoor", sum := "f0cff58b27f762eec7335d4b9e0e1ce45b981aabe1962c649dccf9c0e6244ac8", func := "crier/crierlaw14.PublishReads", spec := "publishReads", unfollowed := true, recurses := true, named := ["unicode/utf8.first", "unicode/utf8.acceptRanges"], apart := false, laid := [("unicode/utf8.acceptRanges", laid_unicode_utf8_acceptRanges), ("unicode/utf8.first", laid_unicode_utf8_first)] }
def PublishReadsSaid : Prop := publishReadsRow.holds Tryd.pinned (OpenSpec.ofChange publishReadsSpec)

/-- ITS FALSE NEIGHBOUR: 'it returns false'. Refute it at one input. -/
def publishReadsWrong : ChangeSpec := { name := "publishReads", fn := fun _ => fun
  | [d1, d2] => { results := [.lit (.bool false)], args := [d1, d2] }
  | _ => none }
def PublishReadsWrongFalsely : Prop := publishReadsRow.holds Tryd.pinned (OpenSpec.ofChange publishReadsWrong)

/-- 'crierlaw14.PublishBack': WHATEVER THE INPUT: true; the input reads as it did. -/
def publishBackSpec : ChangeSpec := { name := "publishBack", fn := fun _ => fun
  | [d1, d2] => { results := [.lit (.bool true)], args := [d1, d2] }
  | _ => none }
def publishBackRow : OpenClaim := { program := "ytinfcjnmloglhaadoor", sum := "f0cff58b27f762eec7335d4b9e0e1ce45b981aabe1962c649dccf9c0e6244ac8", func := "crier/crierlaw14.PublishBack", spec := "publishBack", unfollowed := true, recurses := true, named := ["unicode/utf8.first", "unicode/utf8.acceptRanges"], apart := false, laid := [("unicode/utf8.acceptRanges", laid_unicode_utf8_acceptRanges), ("unicode/utf8.first", laid_unicode_utf8_first)] }
def PublishBackSaid : Prop := publishBackRow.holds Tryd.pinned (OpenSpec.ofChange publishBackSpec)

/-- ITS FALSE NEIGHBOUR: 'it returns false'. Refute it at one input. -/
def publishBackWrong : ChangeSpec := { name := "publishBack", fn := fun _ => fun
  | [d1, d2] => { results := [.lit (.bool false)], args := [d1, d2] }
  | _ => none }
def PublishBackWrongFalsely : Prop := publishBackRow.holds Tryd.pinned (OpenSpec.ofChange publishBackWrong)

/-- 'crierlaw13.ConnectReads': WHATEVER THE INPUT: true; the input reads as it did. -/
def connectReadsSpec : ChangeSpec := { name := "connectReads", fn := fun _ => fun
  | [d] => { results := [.lit (.bool true)], args := [d] }
  | _ => none }
def connectReadsRow : OpenClaim := { program := "ytinfcjnmloglhaadoor", sum := "f0cff58b27f762eec7335d4b9e0e1ce45b981aabe1962c649dccf9c0e6244ac8", func := "crier/crierlaw13.ConnectReads", spec := "connectReads", unfollowed := true, recurses := true, named := ["unicode/utf8.first", "unicode/utf8.acceptRanges"], apart := false, laid := [("unicode/utf8.acceptRanges", laid_unicode_utf8_acceptRanges), ("unicode/utf8.first", laid_unicode_utf8_first)] }
def ConnectReadsSaid : Prop := connectReadsRow.holds Tryd.pinned (OpenSpec.ofChange connectReadsSpec)

/-- ITS FALSE NEIGHBOUR: 'it returns false'. Refute it at one input. -/
def connectReadsWrong : ChangeSpec := { name := "connectReads", fn := fun _ => fun
  | [d] => { results := [.lit (.bool false)], args := [d] }
  | _ => none }
def ConnectReadsWrongFalsely : Prop := connectReadsRow.holds Tryd.pinned (OpenSpec.ofChange connectReadsWrong)

/-- 'crierlaw13.ConnectBack': WHATEVER THE INPUT: true; the input reads as it did. -/
def connectBackSpec : ChangeSpec := { name := "connectBack", fn := fun _ => fun
  | [d1, d2] => { results := [.lit (.bool true)], args := [d1, d2] }
  | _ => none }
def connectBackRow : OpenClaim := { program := "ytinfcjnmloglhaadoor", sum := "f0cff58b27f762eec7335d4b9e0e1ce45b981aabe1962c649dccf9c0e6244ac8", func := "crier/crierlaw13.ConnectBack", spec := "connectBack", unfollowed := true, recurses := true, named := ["unicode/utf8.first", "unicode/utf8.acceptRanges"], apart := false, laid := [("unicode/utf8.acceptRanges", laid_unicode_utf8_acceptRanges), ("unicode/utf8.first", laid_unicode_utf8_first)] }
def ConnectBackSaid : Prop := connectBackRow.holds Tryd.pinned (OpenSpec.ofChange connectBackSpec)

/-- ITS FALSE NEIGHBOUR: 'it returns false'. Refute it at one input. -/
def connectBackWrong : ChangeSpec := { name := "connectBack", fn := fun _ => fun
  | [d1, d2] => { results := [.lit (.bool false)], args := [d1, d2] }
  | _ => none }
def ConnectBackWrongFalsely : Prop := connectBackRow.holds Tryd.pinned (OpenSpec.ofChange connectBackWrong)

/- THE SECOND FORM. 'bulk': how many values and letters a reading holds, each counted each time it is reached (what is shared counts as often as it is met; a slice's spare places count too). A statement '..UptoSaid' is the law's where the arguments, and the package variables that the reading takes, are together of bulk at most 1048576: NARROWER than '..Said'. Prove '..Said' where nothing that the law and all that it calls make is longer than what came in: it says more and counts as full. Else prove '..UptoSaid'. A law counts once. -/
mutual
def uptoBulk {H : Type} : DataW H → Nat
  | .lit (.string bytes) => bytes.length + 1
  | .lit _ => 1
  | .nil => 1
  | .ptr d => uptoBulk d + 1
  | .slice elems spare => uptoBulkAll elems + uptoBulkAll spare + 1
  | .agg parts => uptoBulkAll parts + 1
  | .iface _ d => uptoBulk d + 1
  | .map entries => uptoBulkEntries entries + 1
  | .held _ => 1
def uptoBulkAll {H : Type} : List (DataW H) → Nat
  | [] => 0
  | d :: r => uptoBulk d + uptoBulkAll r
def uptoBulkEntries {H : Type} : List (Lit × DataW H) → Nat
  | [] => 0
  | x :: r => uptoBulkEntry x + uptoBulkEntries r
def uptoBulkEntry {H : Type} : Lit × DataW H → Nat
  | (.string bytes, d) => bytes.length + uptoBulk d + 1
  | (_, d) => uptoBulk d + 1
 end
def uptoSmall : (H : Type) → List (DataW H) → Bool := fun _ ds => decide (uptoBulkAll ds ≤ 1048576)
def OpenSpec.upto (s : _root_.Go.ChangeSpec) : _root_.Go.OpenSpec := { _root_.Go.OpenSpec.ofChange s with cond := some uptoSmall }

/-- 'crierlaw04.UtfTexts', WHERE WHAT IT READS IS OF BULK AT MOST 1048576: true; the input reads as it did. -/
def utfTextsUptoRow : OpenClaim := { program := "ytinfcjnmloglhaadoor", sum := "f0cff58b27f762eec7335d4b9e0e1ce45b981aabe1962c649dccf9c0e6244ac8", func := "crier/crierlaw04.UtfTexts", spec := "utfTexts", named := ["unicode/utf8.first", "unicode/utf8.acceptRanges"], apart := false, laid := [("unicode/utf8.acceptRanges", laid_unicode_utf8_acceptRanges), ("unicode/utf8.first", laid_unicode_utf8_first)], narrowed := true }
def UtfTextsUptoSaid : Prop := utfTextsUptoRow.holds Tryd.pinned (OpenSpec.upto utfTextsSpec)

/-- 'crierlaw04.UtfJoins', WHERE WHAT IT READS IS OF BULK AT MOST 1048576: true; the input reads as it did. -/
def utfJoinsUptoRow : OpenClaim := { program := "ytinfcjnmloglhaadoor", sum := "f0cff58b27f762eec7335d4b9e0e1ce45b981aabe1962c649dccf9c0e6244ac8", func := "crier/crierlaw04.UtfJoins", spec := "utfJoins", named := ["unicode/utf8.first", "unicode/utf8.acceptRanges"], apart := false, laid := [("unicode/utf8.acceptRanges", laid_unicode_utf8_acceptRanges), ("unicode/utf8.first", laid_unicode_utf8_first)], narrowed := true }
def UtfJoinsUptoSaid : Prop := utfJoinsUptoRow.holds Tryd.pinned (OpenSpec.upto utfJoinsSpec)

/-- 'crierlaw04.UtfReads', WHERE WHAT IT READS IS OF BULK AT MOST 1048576: true; the input reads as it did. -/
def utfReadsUptoRow : OpenClaim := { program := "ytinfcjnmloglhaadoor", sum := "f0cff58b27f762eec7335d4b9e0e1ce45b981aabe1962c649dccf9c0e6244ac8", func := "crier/crierlaw04.UtfReads", spec := "utfReads", named := ["unicode/utf8.first", "unicode/utf8.acceptRanges"], apart := false, laid := [("unicode/utf8.acceptRanges", laid_unicode_utf8_acceptRanges), ("unicode/utf8.first", laid_unicode_utf8_first)], narrowed := true }
def UtfReadsUptoSaid : Prop := utfReadsUptoRow.holds Tryd.pinned (OpenSpec.upto utfReadsSpec)

/-- 'crierlaw04.UtfBack', WHERE WHAT IT READS IS OF BULK AT MOST 1048576: true; the input reads as it did. -/
def utfBackUptoRow : OpenClaim := { program := "ytinfcjnmloglhaadoor", sum := "f0cff58b27f762eec7335d4b9e0e1ce45b981aabe1962c649dccf9c0e6244ac8", func := "crier/crierlaw04.UtfBack", spec := "utfBack", named := ["unicode/utf8.first", "unicode/utf8.acceptRanges"], apart := false, laid := [("unicode/utf8.acceptRanges", laid_unicode_utf8_acceptRanges), ("unicode/utf8.first", laid_unicode_utf8_first)], narrowed := true }
def UtfBackUptoSaid : Prop := utfBackUptoRow.holds Tryd.pinned (OpenSpec.upto utfBackSpec)

/-- 'crierlaw14.PublishPuts', WHERE WHAT IT READS IS OF BULK AT MOST 1048576: true; the input reads as it did. -/
def publishPutsUptoRow : OpenClaim := { program := "ytinfcjnmloglhaadoor", sum := "f0cff58b27f762eec7335d4b9e0e1ce45b981aabe1962c649dccf9c0e6244ac8", func := "crier/crierlaw14.PublishPuts", spec := "publishPuts", unfollowed := true, recurses := true, named := ["unicode/utf8.first", "unicode/utf8.acceptRanges"], apart := false, laid := [("unicode/utf8.acceptRanges", laid_unicode_utf8_acceptRanges), ("unicode/utf8.first", laid_unicode_utf8_first)], narrowed := true }
def PublishPutsUptoSaid : Prop := publishPutsUptoRow.holds Tryd.pinned (OpenSpec.upto publishPutsSpec)

/-- 'crierlaw13.ConnectPuts', WHERE WHAT IT READS IS OF BULK AT MOST 1048576: true; the input reads as it did. -/
def connectPutsUptoRow : OpenClaim := { program := "ytinfcjnmloglhaadoor", sum := "f0cff58b27f762eec7335d4b9e0e1ce45b981aabe1962c649dccf9c0e6244ac8", func := "crier/crierlaw13.ConnectPuts", spec := "connectPuts", unfollowed := true, recurses := true, named := ["unicode/utf8.first", "unicode/utf8.acceptRanges"], apart := false, laid := [("unicode/utf8.acceptRanges", laid_unicode_utf8_acceptRanges), ("unicode/utf8.first", laid_unicode_utf8_first)], narrowed := true }
def ConnectPutsUptoSaid : Prop := connectPutsUptoRow.holds Tryd.pinned (OpenSpec.upto connectPutsSpec)

/-- 'crierlaw14.PublishIds', WHERE WHAT IT READS IS OF BULK AT MOST 1048576: true; the input reads as it did. -/
def publishIdsUptoRow : OpenClaim := { program := "ytinfcjnmloglhaadoor", sum := "f0cff58b27f762eec7335d4b9e0e1ce45b981aabe1962c649dccf9c0e6244ac8", func := "crier/crierlaw14.PublishIds", spec := "publishIds", unfollowed := true, recurses := true, named := ["unicode/utf8.first", "unicode/utf8.acceptRanges"], apart := false, laid := [("unicode/utf8.acceptRanges", laid_unicode_utf8_acceptRanges), ("unicode/utf8.first", laid_unicode_utf8_first)], narrowed := true }
def PublishIdsUptoSaid : Prop := publishIdsUptoRow.holds Tryd.pinned (OpenSpec.upto publishIdsSpec)

/-- 'crierlaw13.ConnectAcks', WHERE WHAT IT READS IS OF BULK AT MOST 1048576: true; the input reads as it did. -/
def connectAcksUptoRow : OpenClaim := { program := "ytinfcjnmloglhaadoor", sum := "f0cff58b27f762eec7335d4b9e0e1ce45b981aabe1962c649dccf9c0e6244ac8", func := "crier/crierlaw13.ConnectAcks", spec := "connectAcks", unfollowed := true, recurses := true, named := ["unicode/utf8.first", "unicode/utf8.acceptRanges"], apart := false, laid := [("unicode/utf8.acceptRanges", laid_unicode_utf8_acceptRanges), ("unicode/utf8.first", laid_unicode_utf8_first)], narrowed := true }
def ConnectAcksUptoSaid : Prop := connectAcksUptoRow.holds Tryd.pinned (OpenSpec.upto connectAcksSpec)

/-- 'crierlaw14.PublishReads', WHERE WHAT IT READS IS OF BULK AT MOST 1048576: true; the input reads as it did. -/
def publishReadsUptoRow : OpenClaim := { program := "ytinfcjnmloglhaadoor", sum := "f0cff58b27f762eec7335d4b9e0e1ce45b981aabe1962c649dccf9c0e6244ac8", func := "crier/crierlaw14.PublishReads", spec := "publishReads", unfollowed := true, recurses := true, named := ["unicode/utf8.first", "unicode/utf8.acceptRanges"], apart := false, laid := [("unicode/utf8.acceptRanges", laid_unicode_utf8_acceptRanges), ("unicode/utf8.first", laid_unicode_utf8_first)], narrowed := true }
def PublishReadsUptoSaid : Prop := publishReadsUptoRow.holds Tryd.pinned (OpenSpec.upto publishReadsSpec)

/-- 'crierlaw14.PublishBack', WHERE WHAT IT READS IS OF BULK AT MOST 1048576: true; the input reads as it did. -/
def publishBackUptoRow : OpenClaim := { program := "ytinfcjnmloglhaadoor", sum := "f0cff58b27f762eec7335d4b9e0e1ce45b981aabe1962c649dccf9c0e6244ac8", func := "crier/crierlaw14.PublishBack", spec := "publishBack", unfollowed := true, recurses := true, named := ["unicode/utf8.first", "unicode/utf8.acceptRanges"], apart := false, laid := [("unicode/utf8.acceptRanges", laid_unicode_utf8_acceptRanges), ("unicode/utf8.first", laid_unicode_utf8_first)], narrowed := true }
def PublishBackUptoSaid : Prop := publishBackUptoRow.holds Tryd.pinned (OpenSpec.upto publishBackSpec)

/-- 'crierlaw13.ConnectReads', WHERE WHAT IT READS IS OF BULK AT MOST 1048576: true; the input reads as it did. -/
def connectReadsUptoRow : OpenClaim := { program := "ytinfcjnmloglhaadoor", sum := "f0cff58b27f762eec7335d4b9e0e1ce45b981aabe1962c649dccf9c0e6244ac8", func := "crier/crierlaw13.ConnectReads", spec := "connectReads", unfollowed := true, recurses := true, named := ["unicode/utf8.first", "unicode/utf8.acceptRanges"], apart := false, laid := [("unicode/utf8.acceptRanges", laid_unicode_utf8_acceptRanges), ("unicode/utf8.first", laid_unicode_utf8_first)], narrowed := true }
def ConnectReadsUptoSaid : Prop := connectReadsUptoRow.holds Tryd.pinned (OpenSpec.upto connectReadsSpec)

/-- 'crierlaw13.ConnectBack', WHERE WHAT IT READS IS OF BULK AT MOST 1048576: true; the input reads as it did. -/
def connectBackUptoRow : OpenClaim := { program := "ytinfcjnmloglhaadoor", sum := "f0cff58b27f762eec7335d4b9e0e1ce45b981aabe1962c649dccf9c0e6244ac8", func := "crier/crierlaw13.ConnectBack", spec := "connectBack", unfollowed := true, recurses := true, named := ["unicode/utf8.first", "unicode/utf8.acceptRanges"], apart := false, laid := [("unicode/utf8.acceptRanges", laid_unicode_utf8_acceptRanges), ("unicode/utf8.first", laid_unicode_utf8_first)], narrowed := true }
def ConnectBackUptoSaid : Prop := connectBackUptoRow.holds Tryd.pinned (OpenSpec.upto connectBackSpec)

end Rows
end Go.Proofs.YtinfcjnmloglhaaDoor
