/-
  NARROWER THAN 'FOR EVERY INPUT', by the rows' own cells (each row's printed sentence says how): ConnReads: laid · ConnChunks: laid · ConnWho: laid · ConnOut: laid · ConnZero: laid.
  DERIVED. THE GIVEN ROWS OF THIS SEAT. 5 by the template 'for every input the law returns true; each argument reads behind the call as it read before'; 0 by the template 'total and deterministic' (their statements: YtjlnlgemngpelaaGreatDoorTotals.lean).
  GIVEN WITH THE SEED: the statements are not yours to turn. If you find one false, say at which input.
  Laid BY PROGRAM, IN A SANDBOX (cutbox-rows.mjs): the forced cells as the released guide's own fill.sh prints them over the translation a3e148bca483bde4… (all of the seat's roots in one cut). By AI agents, Wed Nov 11 2026. No macro, syntax, notation, axiom, sorry.
-/
import Derived.Test.YtjlnlgemngpelaaGreatDoorChecked
import GoSem.PinnedTables
import GoSem.Claim
import GoSem.ClaimJoined
import GoSem.ClaimMapViews
import Derived.JoinedTies
import Derived.KernelRfl
namespace Go.Proofs.YtjlnlgemngpelaaGreatDoor
/- THE CELL 'sum', in the pinned program and in every row, IS THE sha256 OF THE DUMP (.gsa) THAT YtjlnlgemngpelaaGreatDoorProg.lean LOADS. Nothing in Lean hashes anything: it is a label: what it is worth is what the hold of that sum in a sandbox is worth. -/
noncomputable def Tryz.pinned : Pinned := { name := "ytjlnlgemngpelaagreatdoor", sum := "a3e148bca483bde4d1eee724e6f5915ae17eadc59f88155eaf38a9f93ad0e7ca", checked := Tryz.checked }
namespace Rows
def none {H : Type} : Left H := { results := [], args := [] }

/- WHAT THE LISTED PACKAGE-LEVEL VARIABLES READ AS WHEN THE CALL BEGINS. Each datum BY PROGRAM (the guide's laid-datum.mjs) off the statement by which the dump's own 'gosem.cut.vars' lays the variable. In a bare row this is a premise. The card (YtjlnlgemngpelaaGreatDoorCards.lean) ties it to the program's text. -/
def laid_crier_head_may {H : Type} : DataW H := .agg [.lit (.bool true), .lit (.bool true), .lit (.bool true), .lit (.bool true), .lit (.bool true), .lit (.bool true), .lit (.bool false), .lit (.bool false), .lit (.bool false), .lit (.bool false), .lit (.bool true), .lit (.bool true), .lit (.bool true), .lit (.bool true), .lit (.bool false), .lit (.bool false)]
def laid_unicode_utf8_acceptRanges {H : Type} : DataW H := .agg [.agg [.lit (.int .u8 128), .lit (.int .u8 191)], .agg [.lit (.int .u8 160), .lit (.int .u8 191)], .agg [.lit (.int .u8 128), .lit (.int .u8 159)], .agg [.lit (.int .u8 144), .lit (.int .u8 191)], .agg [.lit (.int .u8 128), .lit (.int .u8 143)], .agg [.lit (.int .u8 0), .lit (.int .u8 0)], .agg [.lit (.int .u8 0), .lit (.int .u8 0)], .agg [.lit (.int .u8 0), .lit (.int .u8 0)], .agg [.lit (.int .u8 0), .lit (.int .u8 0)], .agg [.lit (.int .u8 0), .lit (.int .u8 0)], .agg [.lit (.int .u8 0), .lit (.int .u8 0)], .agg [.lit (.int .u8 0), .lit (.int .u8 0)], .agg [.lit (.int .u8 0), .lit (.int .u8 0)], .agg [.lit (.int .u8 0), .lit (.int .u8 0)], .agg [.lit (.int .u8 0), .lit (.int .u8 0)], .agg [.lit (.int .u8 0), .lit (.int .u8 0)]]
def laid_errors_errorType {H : Type} : DataW H := .iface "internal/reflectlite.rtype" (.agg [.ptr (.lit (.string [101, 114, 114, 111, 114]))])
/-- One of Go's own tables, pinned by name: the form's constant. -/
def laid_unicode_utf8_first : DataW Unit := Go.Pinned.utf8First

/-- 'crierlaw38.ConnReads': WHATEVER THE INPUT: true; the input reads as it did. -/
def connReadsSpec : ChangeSpec := { name := "connReads", fn := fun _ => fun
  | [d1, d2] => { results := [.lit (.bool true)], args := [d1, d2] }
  | _ => none }
def connReadsRow : OpenClaim := { program := "ytjlnlgemngpelaagreatdoor", sum := "a3e148bca483bde4d1eee724e6f5915ae17eadc59f88155eaf38a9f93ad0e7ca", func := "crier/crierlaw38.ConnReads", spec := "connReads", inPlace := ["internal/reflectlite.TypeOf", "internal/reflectlite.ValueOf", "(internal/reflectlite.Value).Type", "(internal/reflectlite.Value).IsNil", "(internal/reflectlite.Value).Elem", "(internal/reflectlite.Value).Set", "internal/bytealg.CountString", "internal/bytealg.IndexByteString", "internal/bytealg.IndexString", "internal/abi.NoEscape"], unfollowed := true, recurses := true, named := ["crier/head.may", "errors.errorType", "unicode/utf8.first", "unicode/utf8.acceptRanges", "internal/bytealg.MaxLen"], apart := false, laid := [("crier/head.may", laid_crier_head_may), ("unicode/utf8.acceptRanges", laid_unicode_utf8_acceptRanges), ("errors.errorType", laid_errors_errorType), ("unicode/utf8.first", laid_unicode_utf8_first)] }
def ConnReadsSaid : Prop := connReadsRow.holds Tryz.pinned (OpenSpec.ofChange connReadsSpec)

/-- ITS FALSE NEIGHBOUR: 'it returns false'. Refute it at one input. -/
def connReadsWrong : ChangeSpec := { name := "connReads", fn := fun _ => fun
  | [d1, d2] => { results := [.lit (.bool false)], args := [d1, d2] }
  | _ => none }
def ConnReadsWrongFalsely : Prop := connReadsRow.holds Tryz.pinned (OpenSpec.ofChange connReadsWrong)

/-- 'crierlaw38.ConnChunks': WHATEVER THE INPUT: true; the input reads as it did. -/
def connChunksSpec : ChangeSpec := { name := "connChunks", fn := fun _ => fun
  | [d1, d2] => { results := [.lit (.bool true)], args := [d1, d2] }
  | _ => none }
def connChunksRow : OpenClaim := { program := "ytjlnlgemngpelaagreatdoor", sum := "a3e148bca483bde4d1eee724e6f5915ae17eadc59f88155eaf38a9f93ad0e7ca", func := "crier/crierlaw38.ConnChunks", spec := "connChunks", inPlace := ["internal/reflectlite.TypeOf", "internal/reflectlite.ValueOf", "(internal/reflectlite.Value).Type", "(internal/reflectlite.Value).IsNil", "(internal/reflectlite.Value).Elem", "(internal/reflectlite.Value).Set", "internal/bytealg.CountString", "internal/bytealg.IndexByteString", "internal/bytealg.IndexString", "internal/abi.NoEscape"], unfollowed := true, recurses := true, named := ["crier/head.may", "errors.errorType", "unicode/utf8.first", "unicode/utf8.acceptRanges", "internal/bytealg.MaxLen"], apart := false, laid := [("crier/head.may", laid_crier_head_may), ("unicode/utf8.acceptRanges", laid_unicode_utf8_acceptRanges), ("errors.errorType", laid_errors_errorType), ("unicode/utf8.first", laid_unicode_utf8_first)] }
def ConnChunksSaid : Prop := connChunksRow.holds Tryz.pinned (OpenSpec.ofChange connChunksSpec)

/-- ITS FALSE NEIGHBOUR: 'it returns false'. Refute it at one input. -/
def connChunksWrong : ChangeSpec := { name := "connChunks", fn := fun _ => fun
  | [d1, d2] => { results := [.lit (.bool false)], args := [d1, d2] }
  | _ => none }
def ConnChunksWrongFalsely : Prop := connChunksRow.holds Tryz.pinned (OpenSpec.ofChange connChunksWrong)

/-- 'crierlaw38.ConnWho': WHATEVER THE INPUT: true; the input reads as it did. -/
def connWhoSpec : ChangeSpec := { name := "connWho", fn := fun _ => fun
  | [d] => { results := [.lit (.bool true)], args := [d] }
  | _ => none }
def connWhoRow : OpenClaim := { program := "ytjlnlgemngpelaagreatdoor", sum := "a3e148bca483bde4d1eee724e6f5915ae17eadc59f88155eaf38a9f93ad0e7ca", func := "crier/crierlaw38.ConnWho", spec := "connWho", inPlace := ["internal/reflectlite.TypeOf", "internal/reflectlite.ValueOf", "(internal/reflectlite.Value).Type", "(internal/reflectlite.Value).IsNil", "(internal/reflectlite.Value).Elem", "(internal/reflectlite.Value).Set", "internal/bytealg.CountString", "internal/bytealg.IndexByteString", "internal/bytealg.IndexString", "internal/abi.NoEscape"], unfollowed := true, recurses := true, named := ["crier/head.may", "errors.errorType", "unicode/utf8.first", "unicode/utf8.acceptRanges", "internal/bytealg.MaxLen"], apart := false, laid := [("crier/head.may", laid_crier_head_may), ("unicode/utf8.acceptRanges", laid_unicode_utf8_acceptRanges), ("errors.errorType", laid_errors_errorType), ("unicode/utf8.first", laid_unicode_utf8_first)] }
def ConnWhoSaid : Prop := connWhoRow.holds Tryz.pinned (OpenSpec.ofChange connWhoSpec)

/-- ITS FALSE NEIGHBOUR: 'it returns false'. Refute it at one input. -/
def connWhoWrong : ChangeSpec := { name := "connWho", fn := fun _ => fun
  | [d] => { results := [.lit (.bool false)], args := [d] }
  | _ => none }
def ConnWhoWrongFalsely : Prop := connWhoRow.holds Tryz.pinned (OpenSpec.ofChange connWhoWrong)

/-- 'crierlaw38.ConnOut': WHATEVER THE INPUT: true; the input reads as it did. -/
def connOutSpec : ChangeSpec := { name := "connOut", fn := fun _ => fun
  | [d1, d2, d3] => { results := [.lit (.bool true)], args := [d1, d2, d3] }
  | _ => none }
def connOutRow : OpenClaim := { program := "ytjlnlgemngpelaagreatdoor", sum := "a3e148bca483bde4d1eee724e6f5915ae17eadc59f88155eaf38a9f93ad0e7ca", func := "crier/crierlaw38.ConnOut", spec := "connOut", inPlace := ["internal/abi.NoEscape", "internal/reflectlite.TypeOf", "internal/reflectlite.ValueOf", "(internal/reflectlite.Value).Type", "(internal/reflectlite.Value).IsNil", "(internal/reflectlite.Value).Elem", "(internal/reflectlite.Value).Set", "internal/bytealg.CountString", "internal/bytealg.IndexByteString", "internal/bytealg.IndexString"], unfollowed := true, recurses := true, named := ["unicode/utf8.first", "unicode/utf8.acceptRanges", "crier/head.may", "errors.errorType", "internal/bytealg.MaxLen"], apart := false, laid := [("crier/head.may", laid_crier_head_may), ("unicode/utf8.acceptRanges", laid_unicode_utf8_acceptRanges), ("errors.errorType", laid_errors_errorType), ("unicode/utf8.first", laid_unicode_utf8_first)] }
def ConnOutSaid : Prop := connOutRow.holds Tryz.pinned (OpenSpec.ofChange connOutSpec)

/-- ITS FALSE NEIGHBOUR: 'it returns false'. Refute it at one input. -/
def connOutWrong : ChangeSpec := { name := "connOut", fn := fun _ => fun
  | [d1, d2, d3] => { results := [.lit (.bool false)], args := [d1, d2, d3] }
  | _ => none }
def ConnOutWrongFalsely : Prop := connOutRow.holds Tryz.pinned (OpenSpec.ofChange connOutWrong)

/-- 'crierlaw38.ConnZero': WHATEVER THE INPUT: true; the input reads as it did. -/
def connZeroSpec : ChangeSpec := { name := "connZero", fn := fun _ => fun
  | [d1, d2] => { results := [.lit (.bool true)], args := [d1, d2] }
  | _ => none }
def connZeroRow : OpenClaim := { program := "ytjlnlgemngpelaagreatdoor", sum := "a3e148bca483bde4d1eee724e6f5915ae17eadc59f88155eaf38a9f93ad0e7ca", func := "crier/crierlaw38.ConnZero", spec := "connZero", inPlace := ["internal/reflectlite.TypeOf", "internal/reflectlite.ValueOf", "(internal/reflectlite.Value).Type", "(internal/reflectlite.Value).IsNil", "(internal/reflectlite.Value).Elem", "(internal/reflectlite.Value).Set", "internal/bytealg.CountString", "internal/bytealg.IndexByteString", "internal/bytealg.IndexString", "internal/abi.NoEscape"], unfollowed := true, recurses := true, named := ["crier/head.may", "errors.errorType", "unicode/utf8.first", "unicode/utf8.acceptRanges", "internal/bytealg.MaxLen"], apart := false, laid := [("crier/head.may", laid_crier_head_may), ("unicode/utf8.acceptRanges", laid_unicode_utf8_acceptRanges), ("errors.errorType", laid_errors_errorType), ("unicode/utf8.first", laid_unicode_utf8_first)] }
def ConnZeroSaid : Prop := connZeroRow.holds Tryz.pinned (OpenSpec.ofChange connZeroSpec)

/-- ITS FALSE NEIGHBOUR: 'it returns false'. Refute it at one input. -/
def connZeroWrong : ChangeSpec := { name := "connZero", fn := fun _ => fun
  | [d1, d2] => { results := [.lit (.bool false)], args := [d1, d2] }
  | _ => none }
def ConnZeroWrongFalsely : Prop := connZeroRow.holds Tryz.pinned (OpenSpec.ofChange connZeroWrong)

/- THE SECOND FORM. 'bulk': how many values and letters a reading holds, each counted each time it is reached (what is shared counts as often as it is met; a slice's spare places count too). A statement '..UptoSaid' is the law's where the arguments, and the package variables that the reading takes, are together of bulk at most 1048576: NARROWER than '..Said'. Prove '..Said' where nothing that the law and all that it calls make is longer than what came in: it says more and counts as full. Else prove '..UptoSaid'. A law counts once. -/
mutual
def uptoBulk {H : Type} : DataW H → Nat
  | .lit (.string bytes) => bytes.length + 1
  | .lit _ => 1
  | .nil => 1
  | .ptr d => uptoBulk d + 1
  | .slice elems spare => uptoBulkAll elems + uptoBulkAll spare + 1
  | .agg parts => uptoBulkAll parts + 1
  | .iface _ d => uptoBulk d + 1
  | .map entries => uptoBulkEntries entries + 1
  | .held _ => 1
def uptoBulkAll {H : Type} : List (DataW H) → Nat
  | [] => 0
  | d :: r => uptoBulk d + uptoBulkAll r
def uptoBulkEntries {H : Type} : List (Lit × DataW H) → Nat
  | [] => 0
  | x :: r => uptoBulkEntry x + uptoBulkEntries r
def uptoBulkEntry {H : Type} : Lit × DataW H → Nat
  | (.string bytes, d) => bytes.length + uptoBulk d + 1
  | (_, d) => uptoBulk d + 1
 end
def uptoSmall : (H : Type) → List (DataW H) → Bool := fun _ ds => decide (uptoBulkAll ds ≤ 1048576)
def OpenSpec.upto (s : _root_.Go.ChangeSpec) : _root_.Go.OpenSpec := { _root_.Go.OpenSpec.ofChange s with cond := some uptoSmall }

/-- 'crierlaw38.ConnReads', WHERE WHAT IT READS IS OF BULK AT MOST 1048576: true; the input reads as it did. -/
def connReadsUptoRow : OpenClaim := { program := "ytjlnlgemngpelaagreatdoor", sum := "a3e148bca483bde4d1eee724e6f5915ae17eadc59f88155eaf38a9f93ad0e7ca", func := "crier/crierlaw38.ConnReads", spec := "connReads", inPlace := ["internal/reflectlite.TypeOf", "internal/reflectlite.ValueOf", "(internal/reflectlite.Value).Type", "(internal/reflectlite.Value).IsNil", "(internal/reflectlite.Value).Elem", "(internal/reflectlite.Value).Set", "internal/bytealg.CountString", "internal/bytealg.IndexByteString", "internal/bytealg.IndexString", "internal/abi.NoEscape"], unfollowed := true, recurses := true, named := ["crier/head.may", "errors.errorType", "unicode/utf8.first", "unicode/utf8.acceptRanges", "internal/bytealg.MaxLen"], apart := false, laid := [("crier/head.may", laid_crier_head_may), ("unicode/utf8.acceptRanges", laid_unicode_utf8_acceptRanges), ("errors.errorType", laid_errors_errorType), ("unicode/utf8.first", laid_unicode_utf8_first)], narrowed := true }
def ConnReadsUptoSaid : Prop := connReadsUptoRow.holds Tryz.pinned (OpenSpec.upto connReadsSpec)

/-- 'crierlaw38.ConnChunks', WHERE WHAT IT READS IS OF BULK AT MOST 1048576: true; the input reads as it did. -/
def connChunksUptoRow : OpenClaim := { program := "ytjlnlgemngpelaagreatdoor", sum := "a3e148bca483bde4d1eee724e6f5915ae17eadc59f88155eaf38a9f93ad0e7ca", func := "crier/crierlaw38.ConnChunks", spec := "connChunks", inPlace := ["internal/reflectlite.TypeOf", "internal/reflectlite.ValueOf", "(internal/reflectlite.Value).Type", "(internal/reflectlite.Value).IsNil", "(internal/reflectlite.Value).Elem", "(internal/reflectlite.Value).Set", "internal/bytealg.CountString", "internal/bytealg.IndexByteString", "internal/bytealg.IndexString", "internal/abi.NoEscape"], unfollowed := true, recurses := true, named := ["crier/head.may", "errors.errorType", "unicode/utf8.first", "unicode/utf8.acceptRanges", "internal/bytealg.MaxLen"], apart := false, laid := [("crier/head.may", laid_crier_head_may), ("unicode/utf8.acceptRanges", laid_unicode_utf8_acceptRanges), ("errors.errorType", laid_errors_errorType), ("unicode/utf8.first", laid_unicode_utf8_first)], narrowed := true }
def ConnChunksUptoSaid : Prop := connChunksUptoRow.holds Tryz.pinned (OpenSpec.upto connChunksSpec)

/-- 'crierlaw38.ConnWho', WHERE WHAT IT READS IS OF BULK AT MOST 1048576: true; the input reads as it did. -/
def connWhoUptoRow : OpenClaim := { program := "ytjlnlgemngpelaagreatdoor", sum := "a3e148bca483bde4d1eee724e6f5915ae17eadc59f88155eaf38a9f93ad0e7ca", func := "crier/crierlaw38.ConnWho", spec := "connWho", inPlace := ["internal/reflectlite.TypeOf", "internal/reflectlite.ValueOf", "(internal/reflectlite.Value).Type", "(internal/reflectlite.Value).IsNil", "(internal/reflectlite.Value).Elem", "(internal/reflectlite.Value).Set", "internal/bytealg.CountString", "internal/bytealg.IndexByteString", "internal/bytealg.IndexString", "internal/abi.NoEscape"], unfollowed := true, recurses := true, named := ["crier/head.may", "errors.errorType", "unicode/utf8.first", "unicode/utf8.acceptRanges", "internal/bytealg.MaxLen"], apart := false, laid := [("crier/head.may", laid_crier_head_may), ("unicode/utf8.acceptRanges", laid_unicode_utf8_acceptRanges), ("errors.errorType", laid_errors_errorType), ("unicode/utf8.first", laid_unicode_utf8_first)], narrowed := true }
def ConnWhoUptoSaid : Prop := connWhoUptoRow.holds Tryz.pinned (OpenSpec.upto connWhoSpec)

/-- 'crierlaw38.ConnOut', WHERE WHAT IT READS IS OF BULK AT MOST 1048576: true; the input reads as it did. -/
def connOutUptoRow : OpenClaim := { program := "ytjlnlgemngpelaagreatdoor", sum := "a3e148bca483bde4d1eee724e6f5915ae17eadc59f88155eaf38a9f93ad0e7ca", func := "crier/crierlaw38.ConnOut", spec := "connOut", inPlace := ["internal/abi.NoEscape", "internal/reflectlite.TypeOf", "internal/reflectlite.ValueOf", "(internal/reflectlite.Value).Type", "(internal/reflectlite.Value).IsNil", "(internal/reflectlite.Value).Elem", "(internal/reflectlite.Value).Set", "internal/bytealg.CountString", "internal/bytealg.IndexByteString", "internal/bytealg.IndexString"], unfollowed := true, recurses := true, named := ["unicode/utf8.first", "unicode/utf8.acceptRanges", "crier/head.may", "errors.errorType", "internal/bytealg.MaxLen"], apart := false, laid := [("crier/head.may", laid_crier_head_may), ("unicode/utf8.acceptRanges", laid_unicode_utf8_acceptRanges), ("errors.errorType", laid_errors_errorType), ("unicode/utf8.first", laid_unicode_utf8_first)], narrowed := true }
def ConnOutUptoSaid : Prop := connOutUptoRow.holds Tryz.pinned (OpenSpec.upto connOutSpec)

/-- 'crierlaw38.ConnZero', WHERE WHAT IT READS IS OF BULK AT MOST 1048576: true; the input reads as it did. -/
def connZeroUptoRow : OpenClaim := { program := "ytjlnlgemngpelaagreatdoor", sum := "a3e148bca483bde4d1eee724e6f5915ae17eadc59f88155eaf38a9f93ad0e7ca", func := "crier/crierlaw38.ConnZero", spec := "connZero", inPlace := ["internal/reflectlite.TypeOf", "internal/reflectlite.ValueOf", "(internal/reflectlite.Value).Type", "(internal/reflectlite.Value).IsNil", "(internal/reflectlite.Value).Elem", "(internal/reflectlite.Value).Set", "internal/bytealg.CountString", "internal/bytealg.IndexByteString", "internal/bytealg.IndexString", "internal/abi.NoEscape"], unfollowed := true, recurses := true, named := ["crier/head.may", "errors.errorType", "unicode/utf8.first", "unicode/utf8.acceptRanges", "internal/bytealg.MaxLen"], apart := false, laid := [("crier/head.may", laid_crier_head_may), ("unicode/utf8.acceptRanges", laid_unicode_utf8_acceptRanges), ("errors.errorType", laid_errors_errorType), ("unicode/utf8.first", laid_unicode_utf8_first)], narrowed := true }
def ConnZeroUptoSaid : Prop := connZeroUptoRow.holds Tryz.pinned (OpenSpec.upto connZeroSpec)

end Rows
end Go.Proofs.YtjlnlgemngpelaaGreatDoor
