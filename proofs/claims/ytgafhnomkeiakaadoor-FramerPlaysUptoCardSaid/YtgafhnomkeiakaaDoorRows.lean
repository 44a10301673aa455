/-
  NARROWER THAN 'FOR EVERY INPUT', by the rows' own cells (each row's printed sentence says how): SubsPuts: laid · SubsAcks: laid · SubsReads: laid · SubsBack: laid · FramerBack: laid · FramerChunks: laid · FramerPlays: laid · FramerDead: laid · FramerZero: laid.
  DERIVED. THE GIVEN ROWS OF THIS SEAT. 9 by the template 'for every input the law returns true; each argument reads behind the call as it read before'; 0 by the template 'total and deterministic' (their statements: YtgafhnomkeiakaaDoorTotals.lean).
  GIVEN WITH THE SEED: the statements are not yours to turn. If you find one false, say at which input.
  Laid BY PROGRAM, IN A SANDBOX (cutbox-rows.mjs): the forced cells as the released guide's own fill.sh prints them over the translation 0c37f70f09a7ffa8… (all of the seat's roots in one cut). By AI agents, Wed Nov 11 2026. No macro, syntax, notation, axiom, sorry.
-/
import Derived.Test.YtgafhnomkeiakaaDoorChecked
import GoSem.PinnedTables
import GoSem.Claim
import GoSem.ClaimJoined
import GoSem.ClaimMapViews
import Derived.JoinedTies
import Derived.KernelRfl
namespace Go.Proofs.YtgafhnomkeiakaaDoor
/- THE CELL 'sum', in the pinned program and in every row, IS THE sha256 OF THE DUMP (.gsa) THAT YtgafhnomkeiakaaDoorProg.lean LOADS. Nothing in Lean hashes anything: it is a label: what it is worth is what the hold of that sum in a sandbox is worth. -/
noncomputable def Tryd.pinned : Pinned := { name := "ytgafhnomkeiakaadoor", sum := "0c37f70f09a7ffa83c4343a687948740789c9afc379e845c399d8f11024b7751", checked := Tryd.checked }
namespace Rows
def none {H : Type} : Left H := { results := [], args := [] }

/- WHAT THE LISTED PACKAGE-LEVEL VARIABLES READ AS WHEN THE CALL BEGINS. Each datum BY PROGRAM (the guide's laid-datum.mjs) off the statement by which the dump's own 'gosem.cut.vars' lays the variable. In a bare row this is a premise. The card (YtgafhnomkeiakaaDoorCards.lean) ties it to the program's text. -/
def laid_unicode_utf8_acceptRanges {H : Type} : DataW H := .agg [.agg [.lit (.int .u8 128), .lit (.int .u8 191)], .agg [.lit (.int .u8 160), .lit (.int .u8 191)], .agg [.lit (.int .u8 128), .lit (.int .u8 159)], .agg [.lit (.int .u8 144), .lit (.int .u8 191)], .agg [.lit (.int .u8 128), .lit (.int .u8 143)], .agg [.lit (.int .u8 0), .lit (.int .u8 0)], .agg [.lit (.int .u8 0), .lit (.int .u8 0)], .agg [.lit (.int .u8 0), .lit (.int .u8 0)], .agg [.lit (.int .u8 0), .lit (.int .u8 0)], .agg [.lit (.int .u8 0), .lit (.int .u8 0)], .agg [.lit (.int .u8 0), .lit (.int .u8 0)], .agg [.lit (.int .u8 0), .lit (.int .u8 0)], .agg [.lit (.int .u8 0), .lit (.int .u8 0)], .agg [.lit (.int .u8 0), .lit (.int .u8 0)], .agg [.lit (.int .u8 0), .lit (.int .u8 0)], .agg [.lit (.int .u8 0), .lit (.int .u8 0)]]
/-- One of Go's own tables, pinned by name: the form's constant. -/
def laid_unicode_utf8_first : DataW Unit := Go.Pinned.utf8First
def laid_crier_head_may {H : Type} : DataW H := .agg [.lit (.bool true), .lit (.bool true), .lit (.bool true), .lit (.bool true), .lit (.bool true), .lit (.bool true), .lit (.bool false), .lit (.bool false), .lit (.bool false), .lit (.bool false), .lit (.bool true), .lit (.bool true), .lit (.bool true), .lit (.bool true), .lit (.bool false), .lit (.bool false)]
def laid_errors_errorType {H : Type} : DataW H := .iface "internal/reflectlite.rtype" (.agg [.ptr (.lit (.string [101, 114, 114, 111, 114]))])

/-- 'crierlaw15.SubsPuts': WHATEVER THE INPUT: true; the input reads as it did. -/
def subsPutsSpec : ChangeSpec := { name := "subsPuts", fn := fun _ => fun
  | [d1, d2, d3] => { results := [.lit (.bool true)], args := [d1, d2, d3] }
  | _ => none }
def subsPutsRow : OpenClaim := { program := "ytgafhnomkeiakaadoor", sum := "0c37f70f09a7ffa83c4343a687948740789c9afc379e845c399d8f11024b7751", func := "crier/crierlaw15.SubsPuts", spec := "subsPuts", named := ["unicode/utf8.first", "unicode/utf8.acceptRanges"], apart := false, laid := [("unicode/utf8.acceptRanges", laid_unicode_utf8_acceptRanges), ("unicode/utf8.first", laid_unicode_utf8_first)] }
def SubsPutsSaid : Prop := subsPutsRow.holds Tryd.pinned (OpenSpec.ofChange subsPutsSpec)

/-- ITS FALSE NEIGHBOUR: 'it returns false'. Refute it at one input. -/
def subsPutsWrong : ChangeSpec := { name := "subsPuts", fn := fun _ => fun
  | [d1, d2, d3] => { results := [.lit (.bool false)], args := [d1, d2, d3] }
  | _ => none }
def SubsPutsWrongFalsely : Prop := subsPutsRow.holds Tryd.pinned (OpenSpec.ofChange subsPutsWrong)

/-- 'crierlaw15.SubsAcks': WHATEVER THE INPUT: true; the input reads as it did. -/
def subsAcksSpec : ChangeSpec := { name := "subsAcks", fn := fun _ => fun
  | [d1, d2, d3] => { results := [.lit (.bool true)], args := [d1, d2, d3] }
  | _ => none }
def subsAcksRow : OpenClaim := { program := "ytgafhnomkeiakaadoor", sum := "0c37f70f09a7ffa83c4343a687948740789c9afc379e845c399d8f11024b7751", func := "crier/crierlaw15.SubsAcks", spec := "subsAcks", named := ["unicode/utf8.first", "unicode/utf8.acceptRanges"], apart := false, laid := [("unicode/utf8.acceptRanges", laid_unicode_utf8_acceptRanges), ("unicode/utf8.first", laid_unicode_utf8_first)] }
def SubsAcksSaid : Prop := subsAcksRow.holds Tryd.pinned (OpenSpec.ofChange subsAcksSpec)

/-- ITS FALSE NEIGHBOUR: 'it returns false'. Refute it at one input. -/
def subsAcksWrong : ChangeSpec := { name := "subsAcks", fn := fun _ => fun
  | [d1, d2, d3] => { results := [.lit (.bool false)], args := [d1, d2, d3] }
  | _ => none }
def SubsAcksWrongFalsely : Prop := subsAcksRow.holds Tryd.pinned (OpenSpec.ofChange subsAcksWrong)

/-- 'crierlaw15.SubsReads': WHATEVER THE INPUT: true; the input reads as it did. -/
def subsReadsSpec : ChangeSpec := { name := "subsReads", fn := fun _ => fun
  | [d1, d2] => { results := [.lit (.bool true)], args := [d1, d2] }
  | _ => none }
def subsReadsRow : OpenClaim := { program := "ytgafhnomkeiakaadoor", sum := "0c37f70f09a7ffa83c4343a687948740789c9afc379e845c399d8f11024b7751", func := "crier/crierlaw15.SubsReads", spec := "subsReads", unfollowed := true, recurses := true, named := ["unicode/utf8.first", "unicode/utf8.acceptRanges"], apart := false, laid := [("unicode/utf8.acceptRanges", laid_unicode_utf8_acceptRanges), ("unicode/utf8.first", laid_unicode_utf8_first)] }
def SubsReadsSaid : Prop := subsReadsRow.holds Tryd.pinned (OpenSpec.ofChange subsReadsSpec)

/-- ITS FALSE NEIGHBOUR: 'it returns false'. Refute it at one input. -/
def subsReadsWrong : ChangeSpec := { name := "subsReads", fn := fun _ => fun
  | [d1, d2] => { results := [.lit (.bool false)], args := [d1, d2] }
  | _ => none }
def SubsReadsWrongFalsely : Prop := subsReadsRow.holds Tryd.pinned (OpenSpec.ofChange subsReadsWrong)

/-- 'crierlaw15.SubsBack': WHATEVER THE INPUT: true; the input reads as it did. -/
def subsBackSpec : ChangeSpec := { name := "subsBack", fn := fun _ => fun
  | [d1, d2, d3] => { results := [.lit (.bool true)], args := [d1, d2, d3] }
  | _ => none }
def subsBackRow : OpenClaim := { program := "ytgafhnomkeiakaadoor", sum := "0c37f70f09a7ffa83c4343a687948740789c9afc379e845c399d8f11024b7751", func := "crier/crierlaw15.SubsBack", spec := "subsBack", unfollowed := true, recurses := true, named := ["unicode/utf8.first", "unicode/utf8.acceptRanges"], apart := false, laid := [("unicode/utf8.acceptRanges", laid_unicode_utf8_acceptRanges), ("unicode/utf8.first", laid_unicode_utf8_first)] }
def SubsBackSaid : Prop := subsBackRow.holds Tryd.pinned (OpenSpec.ofChange subsBackSpec)

/-- ITS FALSE NEIGHBOUR: 'it returns false'. Refute it at one input. -/
def subsBackWrong : ChangeSpec := { name := "subsBack", fn := fun _ => fun
  | [d1, d2, d3] => { results := [.lit (.bool false)], args := [d1, d2, d3] }
  | _ => none }
def SubsBackWrongFalsely : Prop := subsBackRow.holds Tryd.pinned (OpenSpec.ofChange subsBackWrong)

/-- 'crierlaw12.FramerBack': WHATEVER THE INPUT: true; the input reads as it did. -/
def framerBackSpec : ChangeSpec := { name := "framerBack", fn := fun _ => fun
  | [d1, d2] => { results := [.lit (.bool true)], args := [d1, d2] }
  | _ => none }
def framerBackRow : OpenClaim := { program := "ytgafhnomkeiakaadoor", sum := "0c37f70f09a7ffa83c4343a687948740789c9afc379e845c399d8f11024b7751", func := "crier/crierlaw12.FramerBack", spec := "framerBack", inPlace := ["internal/reflectlite.TypeOf", "internal/reflectlite.ValueOf", "(internal/reflectlite.Value).Type", "(internal/reflectlite.Value).IsNil", "(internal/reflectlite.Value).Elem", "(internal/reflectlite.Value).Set"], unfollowed := true, recurses := true, named := ["crier/head.may", "errors.errorType"], apart := false, laid := [("crier/head.may", laid_crier_head_may), ("errors.errorType", laid_errors_errorType)] }
def FramerBackSaid : Prop := framerBackRow.holds Tryd.pinned (OpenSpec.ofChange framerBackSpec)

/-- ITS FALSE NEIGHBOUR: 'it returns false'. Refute it at one input. -/
def framerBackWrong : ChangeSpec := { name := "framerBack", fn := fun _ => fun
  | [d1, d2] => { results := [.lit (.bool false)], args := [d1, d2] }
  | _ => none }
def FramerBackWrongFalsely : Prop := framerBackRow.holds Tryd.pinned (OpenSpec.ofChange framerBackWrong)

/-- 'crierlaw12.FramerChunks': WHATEVER THE INPUT: true; the input reads as it did. -/
def framerChunksSpec : ChangeSpec := { name := "framerChunks", fn := fun _ => fun
  | [d1, d2] => { results := [.lit (.bool true)], args := [d1, d2] }
  | _ => none }
def framerChunksRow : OpenClaim := { program := "ytgafhnomkeiakaadoor", sum := "0c37f70f09a7ffa83c4343a687948740789c9afc379e845c399d8f11024b7751", func := "crier/crierlaw12.FramerChunks", spec := "framerChunks", inPlace := ["internal/reflectlite.TypeOf", "internal/reflectlite.ValueOf", "(internal/reflectlite.Value).Type", "(internal/reflectlite.Value).IsNil", "(internal/reflectlite.Value).Elem", "(internal/reflectlite.Value).Set"], unfollowed := true, recurses := true, named := ["crier/head.may", "errors.errorType"], apart := false, laid := [("crier/head.may", laid_crier_head_may), ("errors.errorType", laid_errors_errorType)] }
def FramerChunksSaid : Prop := framerChunksRow.holds Tryd.pinned (OpenSpec.ofChange framerChunksSpec)

/-- ITS FALSE NEIGHBOUR: 'it returns false'. Refute it at one input. -/
def framerChunksWrong : ChangeSpec := { name := "framerChunks", fn := fun _ => fun
  | [d1, d2] => { results := [.lit (.bool false)], args := [d1, d2] }
  | _ => none }
def FramerChunksWrongFalsely : Prop := framerChunksRow.holds Tryd.pinned (OpenSpec.ofChange framerChunksWrong)

/-- 'crierlaw12.FramerPlays': WHATEVER THE INPUT: true; the input reads as it did. -/
def framerPlaysSpec : ChangeSpec := { name := "framerPlays", fn := fun _ => fun
  | [d1, d2] => { results := [.lit (.bool true)], args := [d1, d2] }
  | _ => none }
def framerPlaysRow : OpenClaim := { program := "ytgafhnomkeiakaadoor", sum := "0c37f70f09a7ffa83c4343a687948740789c9afc379e845c399d8f11024b7751", func := "crier/crierlaw12.FramerPlays", spec := "framerPlays", inPlace := ["internal/reflectlite.TypeOf", "internal/reflectlite.ValueOf", "(internal/reflectlite.Value).Type", "(internal/reflectlite.Value).IsNil", "(internal/reflectlite.Value).Elem", "(internal/reflectlite.Value).Set"], unfollowed := true, recurses := true, named := ["crier/head.may", "errors.errorType"], apart := false, laid := [("crier/head.may", laid_crier_head_may), ("errors.errorType", laid_errors_errorType)] }
def FramerPlaysSaid : Prop := framerPlaysRow.holds Tryd.pinned (OpenSpec.ofChange framerPlaysSpec)

/-- ITS FALSE NEIGHBOUR: 'it returns false'. Refute it at one input. -/
def framerPlaysWrong : ChangeSpec := { name := "framerPlays", fn := fun _ => fun
  | [d1, d2] => { results := [.lit (.bool false)], args := [d1, d2] }
  | _ => none }
def FramerPlaysWrongFalsely : Prop := framerPlaysRow.holds Tryd.pinned (OpenSpec.ofChange framerPlaysWrong)

/-- 'crierlaw12.FramerDead': WHATEVER THE INPUT: true; the input reads as it did. -/
def framerDeadSpec : ChangeSpec := { name := "framerDead", fn := fun _ => fun
  | [d1, d2] => { results := [.lit (.bool true)], args := [d1, d2] }
  | _ => none }
def framerDeadRow : OpenClaim := { program := "ytgafhnomkeiakaadoor", sum := "0c37f70f09a7ffa83c4343a687948740789c9afc379e845c399d8f11024b7751", func := "crier/crierlaw12.FramerDead", spec := "framerDead", inPlace := ["internal/reflectlite.TypeOf", "internal/reflectlite.ValueOf", "(internal/reflectlite.Value).Type", "(internal/reflectlite.Value).IsNil", "(internal/reflectlite.Value).Elem", "(internal/reflectlite.Value).Set"], unfollowed := true, recurses := true, named := ["crier/head.may", "errors.errorType"], apart := false, laid := [("crier/head.may", laid_crier_head_may), ("errors.errorType", laid_errors_errorType)] }
def FramerDeadSaid : Prop := framerDeadRow.holds Tryd.pinned (OpenSpec.ofChange framerDeadSpec)

/-- ITS FALSE NEIGHBOUR: 'it returns false'. Refute it at one input. -/
def framerDeadWrong : ChangeSpec := { name := "framerDead", fn := fun _ => fun
  | [d1, d2] => { results := [.lit (.bool false)], args := [d1, d2] }
  | _ => none }
def FramerDeadWrongFalsely : Prop := framerDeadRow.holds Tryd.pinned (OpenSpec.ofChange framerDeadWrong)

/-- 'crierlaw12.FramerZero': WHATEVER THE INPUT: true; the input reads as it did. -/
def framerZeroSpec : ChangeSpec := { name := "framerZero", fn := fun _ => fun
  | [d] => { results := [.lit (.bool true)], args := [d] }
  | _ => none }
def framerZeroRow : OpenClaim := { program := "ytgafhnomkeiakaadoor", sum := "0c37f70f09a7ffa83c4343a687948740789c9afc379e845c399d8f11024b7751", func := "crier/crierlaw12.FramerZero", spec := "framerZero", inPlace := ["internal/reflectlite.TypeOf", "internal/reflectlite.ValueOf", "(internal/reflectlite.Value).Type", "(internal/reflectlite.Value).IsNil", "(internal/reflectlite.Value).Elem", "(internal/reflectlite.Value).Set"], unfollowed := true, recurses := true, named := ["crier/head.may", "errors.errorType"], apart := false, laid := [("crier/head.may", laid_crier_head_may), ("errors.errorType", laid_errors_errorType)] }
def FramerZeroSaid : Prop := framerZeroRow.holds Tryd.pinned (OpenSpec.ofChange framerZeroSpec)

/-- ITS FALSE NEIGHBOUR: 'it returns false'. Refute it at one input. -/
def framerZeroWrong : ChangeSpec := { name := "framerZero", fn := fun _ => fun
  | [d] => { results := [.lit (.bool false)], args := [d] }
  | _ => none }
def FramerZeroWrongFalsely : Prop := framerZeroRow.holds Tryd.pinned (OpenSpec.ofChange framerZeroWrong)

/- THE SECOND FORM. 'bulk': how many values and letters a reading holds, each counted each time it is reached (what is shared counts as often as it is met; a slice's spare places count too). A statement '..UptoSaid' is the law's where the arguments, and the package variables that the reading takes, are together of bulk at most 1048576: NARROWER than '..Said'. Prove '..Said' where nothing that the law and all that it calls make is longer than what came in: it says more and counts as full. Else prove '..UptoSaid'. A law counts once. -/
mutual
def uptoBulk {H : Type} : DataW H → Nat
  | .lit (.string bytes) => bytes.length + 1
  | .lit _ => 1
  | .nil => 1
  | .ptr d => uptoBulk d + 1
  | .slice elems spare => uptoBulkAll elems + uptoBulkAll spare + 1
  | .agg parts => uptoBulkAll parts + 1
  | .iface _ d => uptoBulk d + 1
  | .map entries => uptoBulkEntries entries + 1
  | .held _ => 1
def uptoBulkAll {H : Type} : List (DataW H) → Nat
  | [] => 0
  | d :: r => uptoBulk d + uptoBulkAll r
def uptoBulkEntries {H : Type} : List (Lit × DataW H) → Nat
  | [] => 0
  | x :: r => uptoBulkEntry x + uptoBulkEntries r
def uptoBulkEntry {H : Type} : Lit × DataW H → Nat
  | (.string bytes, d) => bytes.length + uptoBulk d + 1
  | (_, d) => uptoBulk d + 1
 end
def uptoSmall : (H : Type) → List (DataW H) → Bool := fun _ ds => decide (uptoBulkAll ds ≤ 1048576)
def OpenSpec.upto (s : _root_.Go.ChangeSpec) : _root_.Go.OpenSpec := { _root_.Go.OpenSpec.ofChange s with cond := some uptoSmall }

/-- 'crierlaw15.SubsPuts', WHERE WHAT IT READS IS OF BULK AT MOST 1048576: true; the input reads as it did. -/
def subsPutsUptoRow : OpenClaim := { program := "ytgafhnomkeiakaadoor", sum := "0c37f70f09a7ffa83c4343a687948740789c9afc379e845c399d8f11024b7751", func := "crier/crierlaw15.SubsPuts", spec := "subsPuts", named := ["unicode/utf8.first", "unicode/utf8.acceptRanges"], apart := false, laid := [("unicode/utf8.acceptRanges", laid_unicode_utf8_acceptRanges), ("unicode/utf8.first", laid_unicode_utf8_first)], narrowed := true }
def SubsPutsUptoSaid : Prop := subsPutsUptoRow.holds Tryd.pinned (OpenSpec.upto subsPutsSpec)

/-- 'crierlaw15.SubsAcks', WHERE WHAT IT READS IS OF BULK AT MOST 1048576: true; the input reads as it did. -/
def subsAcksUptoRow : OpenClaim := { program := "ytgafhnomkeiakaadoor", sum := "0c37f70f09a7ffa83c4343a687948740789c9afc379e845c399d8f11024b7751", func := "crier/crierlaw15.SubsAcks", spec := "subsAcks", named := ["unicode/utf8.first", "unicode/utf8.acceptRanges"], apart := false, laid := [("unicode/utf8.acceptRanges", laid_unicode_utf8_acceptRanges), ("unicode/utf8.first", laid_unicode_utf8_first)], narrowed := true }
def SubsAcksUptoSaid : Prop := subsAcksUptoRow.holds Tryd.pinned (OpenSpec.upto subsAcksSpec)

/-- 'crierlaw15.SubsReads', WHERE WHAT IT READS IS OF BULK AT MOST 1048576: true; the input reads as it did. -/
def subsReadsUptoRow : OpenClaim := { program := "ytgafhnomkeiakaadoor", sum := "0c37f70f09a7ffa83c4343a687948740789c9afc379e845c399d8f11024b7751", func := "crier/crierlaw15.SubsReads", spec := "subsReads", unfollowed := true, recurses := true, named := ["unicode/utf8.first", "unicode/utf8.acceptRanges"], apart := false, laid := [("unicode/utf8.acceptRanges", laid_unicode_utf8_acceptRanges), ("unicode/utf8.first", laid_unicode_utf8_first)], narrowed := true }
def SubsReadsUptoSaid : Prop := subsReadsUptoRow.holds Tryd.pinned (OpenSpec.upto subsReadsSpec)

/-- 'crierlaw15.SubsBack', WHERE WHAT IT READS IS OF BULK AT MOST 1048576: true; the input reads as it did. -/
def subsBackUptoRow : OpenClaim := { program := "ytgafhnomkeiakaadoor", sum := "0c37f70f09a7ffa83c4343a687948740789c9afc379e845c399d8f11024b7751", func := "crier/crierlaw15.SubsBack", spec := "subsBack", unfollowed := true, recurses := true, named := ["unicode/utf8.first", "unicode/utf8.acceptRanges"], apart := false, laid := [("unicode/utf8.acceptRanges", laid_unicode_utf8_acceptRanges), ("unicode/utf8.first", laid_unicode_utf8_first)], narrowed := true }
def SubsBackUptoSaid : Prop := subsBackUptoRow.holds Tryd.pinned (OpenSpec.upto subsBackSpec)

/-- 'crierlaw12.FramerBack', WHERE WHAT IT READS IS OF BULK AT MOST 1048576: true; the input reads as it did. -/
def framerBackUptoRow : OpenClaim := { program := "ytgafhnomkeiakaadoor", sum := "0c37f70f09a7ffa83c4343a687948740789c9afc379e845c399d8f11024b7751", func := "crier/crierlaw12.FramerBack", spec := "framerBack", inPlace := ["internal/reflectlite.TypeOf", "internal/reflectlite.ValueOf", "(internal/reflectlite.Value).Type", "(internal/reflectlite.Value).IsNil", "(internal/reflectlite.Value).Elem", "(internal/reflectlite.Value).Set"], unfollowed := true, recurses := true, named := ["crier/head.may", "errors.errorType"], apart := false, laid := [("crier/head.may", laid_crier_head_may), ("errors.errorType", laid_errors_errorType)], narrowed := true }
def FramerBackUptoSaid : Prop := framerBackUptoRow.holds Tryd.pinned (OpenSpec.upto framerBackSpec)

/-- 'crierlaw12.FramerChunks', WHERE WHAT IT READS IS OF BULK AT MOST 1048576: true; the input reads as it did. -/
def framerChunksUptoRow : OpenClaim := { program := "ytgafhnomkeiakaadoor", sum := "0c37f70f09a7ffa83c4343a687948740789c9afc379e845c399d8f11024b7751", func := "crier/crierlaw12.FramerChunks", spec := "framerChunks", inPlace := ["internal/reflectlite.TypeOf", "internal/reflectlite.ValueOf", "(internal/reflectlite.Value).Type", "(internal/reflectlite.Value).IsNil", "(internal/reflectlite.Value).Elem", "(internal/reflectlite.Value).Set"], unfollowed := true, recurses := true, named := ["crier/head.may", "errors.errorType"], apart := false, laid := [("crier/head.may", laid_crier_head_may), ("errors.errorType", laid_errors_errorType)], narrowed := true }
def FramerChunksUptoSaid : Prop := framerChunksUptoRow.holds Tryd.pinned (OpenSpec.upto framerChunksSpec)

/-- 'crierlaw12.FramerPlays', WHERE WHAT IT READS IS OF BULK AT MOST 1048576: true; the input reads as it did. -/
def framerPlaysUptoRow : OpenClaim := { program := "ytgafhnomkeiakaadoor", sum := "0c37f70f09a7ffa83c4343a687948740789c9afc379e845c399d8f11024b7751", func := "crier/crierlaw12.FramerPlays", spec := "framerPlays", inPlace := ["internal/reflectlite.TypeOf", "internal/reflectlite.ValueOf", "(internal/reflectlite.Value).Type", "(internal/reflectlite.Value).IsNil", "(internal/reflectlite.Value).Elem", "(internal/reflectlite.Value).Set"], unfollowed := true, recurses := true, named := ["crier/head.may", "errors.errorType"], apart := false, laid := [("crier/head.may", laid_crier_head_may), ("errors.errorType", laid_errors_errorType)], narrowed := true }
def FramerPlaysUptoSaid : Prop := framerPlaysUptoRow.holds Tryd.pinned (OpenSpec.upto framerPlaysSpec)

/-- 'crierlaw12.FramerDead', WHERE WHAT IT READS IS OF BULK AT MOST 1048576: true; the input reads as it did. -/
def framerDeadUptoRow : OpenClaim := { program := "ytgafhnomkeiakaadoor", sum := "0c37f70f09a7ffa83c4343a687948740789c9afc379e845c399d8f11024b7751", func := "crier/crierlaw12.FramerDead", spec := "framerDead", inPlace := ["internal/reflectlite.TypeOf", "internal/reflectlite.ValueOf", "(internal/reflectlite.Value).Type", "(internal/reflectlite.Value).IsNil", "(internal/reflectlite.Value).Elem", "(internal/reflectlite.Value).Set"], unfollowed := true, recurses := true, named := ["crier/head.may", "errors.errorType"], apart := false, laid := [("crier/head.may", laid_crier_head_may), ("errors.errorType", laid_errors_errorType)], narrowed := true }
def FramerDeadUptoSaid : Prop := framerDeadUptoRow.holds Tryd.pinned (OpenSpec.upto framerDeadSpec)

/-- 'crierlaw12.FramerZero', WHERE WHAT IT READS IS OF BULK AT MOST 1048576: true; the input reads as it did. -/
def framerZeroUptoRow : OpenClaim := { program := "ytgafhnomkeiakaadoor", sum := "0c37f70f09a7ffa83c4343a687948740789c9afc379e845c399d8f11024b7751", func := "crier/crierlaw12.FramerZero", spec := "framerZero", inPlace := ["internal/reflectlite.TypeOf", "internal/reflectlite.ValueOf", "(internal/reflectlite.Value).Type", "(internal/reflectlite.Value).IsNil", "(internal/reflectlite.Value).Elem", "(internal/reflectlite.Value).Set"], unfollowed := true, recurses := true, named := ["crier/head.may", "errors.errorType"], apart := false, laid := [("crier/head.may", laid_crier_head_may), ("errors.errorType", laid_errors_errorType)], narrowed := true }
def FramerZeroUptoSaid : Prop := framerZeroUptoRow.holds Tryd.pinned (OpenSpec.upto framerZeroSpec)

end Rows
end Go.Proofs.YtgafhnomkeiakaaDoor
