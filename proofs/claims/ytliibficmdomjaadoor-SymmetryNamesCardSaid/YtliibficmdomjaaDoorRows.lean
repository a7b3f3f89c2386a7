/-
  NARROWER THAN 'FOR EVERY INPUT', by the rows' own cells (each row's printed sentence says how): SymmetryCompose: laid · SymmetryAlike: laid · SymmetryGroup: laid · SymmetryLeast: laid · SymmetryNames: laid.
  DERIVED. THE GIVEN ROWS OF THIS SEAT. 5 by the template 'for every input the law returns true; each argument reads behind the call as it read before'; 0 by the template 'total and deterministic' (their statements: YtliibficmdomjaaDoorTotals.lean).
  GIVEN WITH THE SEED: the statements are not yours to turn. If you find one false, say at which input.
  Laid BY PROGRAM, IN A SANDBOX (cutbox-rows.mjs): the forced cells as the released guide's own fill.sh prints them over the translation 1469c0a6c4232dcb… (all of the seat's roots in one cut). By AI agents, Wed Nov 11 2026. No macro, syntax, notation, axiom, sorry.
-/
import Derived.Test.YtliibficmdomjaaDoorChecked
import GoSem.PinnedTables
import GoSem.Claim
import GoSem.ClaimJoined
import GoSem.ClaimMapViews
import Derived.JoinedTies
import Derived.KernelRfl
namespace Go.Proofs.YtliibficmdomjaaDoor
/- THE CELL 'sum', in the pinned program and in every row, IS THE sha256 OF THE DUMP (.gsa) THAT YtliibficmdomjaaDoorProg.lean LOADS. Nothing in Lean hashes anything: it is a label: what it is worth is what the hold of that sum in a sandbox is worth. -/
noncomputable def Tryd.pinned : Pinned := { name := "ytliibficmdomjaadoor", sum := "1469c0a6c4232dcbd728e1a4bba5e3ac8193e58246041974764883b4fb3b46a7", checked := Tryd.checked }
namespace Rows
def none {H : Type} : Left H := { results := [], args := [] }

/- WHAT THE LISTED PACKAGE-LEVEL VARIABLES READ AS WHEN THE CALL BEGINS. Each datum BY PROGRAM (the guide's laid-datum.mjs) off the statement by which the dump's own 'gosem.cut.vars' lays the variable. In a bare row this is a premise. The card (YtliibficmdomjaaDoorCards.lean) ties it to the program's text. -/
def laid_unicode_utf8_acceptRanges {H : Type} : DataW H := .agg [.agg [.lit (.int .u8 128), .lit (.int .u8 191)], .agg [.lit (.int .u8 160), .lit (.int .u8 191)], .agg [.lit (.int .u8 128), .lit (.int .u8 159)], .agg [.lit (.int .u8 144), .lit (.int .u8 191)], .agg [.lit (.int .u8 128), .lit (.int .u8 143)], .agg [.lit (.int .u8 0), .lit (.int .u8 0)], .agg [.lit (.int .u8 0), .lit (.int .u8 0)], .agg [.lit (.int .u8 0), .lit (.int .u8 0)], .agg [.lit (.int .u8 0), .lit (.int .u8 0)], .agg [.lit (.int .u8 0), .lit (.int .u8 0)], .agg [.lit (.int .u8 0), .lit (.int .u8 0)], .agg [.lit (.int .u8 0), .lit (.int .u8 0)], .agg [.lit (.int .u8 0), .lit (.int .u8 0)], .agg [.lit (.int .u8 0), .lit (.int .u8 0)], .agg [.lit (.int .u8 0), .lit (.int .u8 0)], .agg [.lit (.int .u8 0), .lit (.int .u8 0)]]
/-- One of Go's own tables, pinned by name: the form's constant. -/
def laid_unicode_utf8_first : DataW Unit := Go.Pinned.utf8First

/-- 'raddlelaw07.SymmetryCompose': WHATEVER THE INPUT: true; the input reads as it did. -/
def symmetryComposeSpec : ChangeSpec := { name := "symmetryCompose", fn := fun _ => fun
  | [d1, d2, d3, d4] => { results := [.lit (.bool true)], args := [d1, d2, d3, d4] }
  | _ => none }
def symmetryComposeRow : OpenClaim := { program := "ytliibficmdomjaadoor", sum := "1469c0a6c4232dcbd728e1a4bba5e3ac8193e58246041974764883b4fb3b46a7", func := "raddle/raddlelaw07.SymmetryCompose", spec := "symmetryCompose", inPlace := ["internal/bytealg.IndexByteString", "internal/bytealg.IndexString", "internal/bytealg.CountString"], named := ["unicode/utf8.first", "unicode/utf8.acceptRanges", "internal/bytealg.MaxLen"], apart := false, laid := [("unicode/utf8.acceptRanges", laid_unicode_utf8_acceptRanges), ("unicode/utf8.first", laid_unicode_utf8_first)] }
def SymmetryComposeSaid : Prop := symmetryComposeRow.holds Tryd.pinned (OpenSpec.ofChange symmetryComposeSpec)

/-- ITS FALSE NEIGHBOUR: 'it returns false'. Refute it at one input. -/
def symmetryComposeWrong : ChangeSpec := { name := "symmetryCompose", fn := fun _ => fun
  | [d1, d2, d3, d4] => { results := [.lit (.bool false)], args := [d1, d2, d3, d4] }
  | _ => none }
def SymmetryComposeWrongFalsely : Prop := symmetryComposeRow.holds Tryd.pinned (OpenSpec.ofChange symmetryComposeWrong)

/-- 'raddlelaw07.SymmetryAlike': WHATEVER THE INPUT: true; the input reads as it did. -/
def symmetryAlikeSpec : ChangeSpec := { name := "symmetryAlike", fn := fun _ => fun
  | [d1, d2] => { results := [.lit (.bool true)], args := [d1, d2] }
  | _ => none }
def symmetryAlikeRow : OpenClaim := { program := "ytliibficmdomjaadoor", sum := "1469c0a6c4232dcbd728e1a4bba5e3ac8193e58246041974764883b4fb3b46a7", func := "raddle/raddlelaw07.SymmetryAlike", spec := "symmetryAlike", inPlace := ["internal/bytealg.IndexByteString", "internal/bytealg.IndexString", "internal/bytealg.CountString"], named := ["unicode/utf8.first", "unicode/utf8.acceptRanges", "internal/bytealg.MaxLen"], apart := false, laid := [("unicode/utf8.acceptRanges", laid_unicode_utf8_acceptRanges), ("unicode/utf8.first", laid_unicode_utf8_first)] }
def SymmetryAlikeSaid : Prop := symmetryAlikeRow.holds Tryd.pinned (OpenSpec.ofChange symmetryAlikeSpec)

/-- ITS FALSE NEIGHBOUR: 'it returns false'. Refute it at one input. -/
def symmetryAlikeWrong : ChangeSpec := { name := "symmetryAlike", fn := fun _ => fun
  | [d1, d2] => { results := [.lit (.bool false)], args := [d1, d2] }
  | _ => none }
def SymmetryAlikeWrongFalsely : Prop := symmetryAlikeRow.holds Tryd.pinned (OpenSpec.ofChange symmetryAlikeWrong)

/-- 'raddlelaw07.SymmetryGroup': WHATEVER THE INPUT: true; the input reads as it did. -/
def symmetryGroupSpec : ChangeSpec := { name := "symmetryGroup", fn := fun _ => fun
  | [d] => { results := [.lit (.bool true)], args := [d] }
  | _ => none }
def symmetryGroupRow : OpenClaim := { program := "ytliibficmdomjaadoor", sum := "1469c0a6c4232dcbd728e1a4bba5e3ac8193e58246041974764883b4fb3b46a7", func := "raddle/raddlelaw07.SymmetryGroup", spec := "symmetryGroup", inPlace := ["internal/bytealg.IndexByteString", "internal/bytealg.IndexString", "internal/bytealg.CountString"], named := ["unicode/utf8.first", "unicode/utf8.acceptRanges", "internal/bytealg.MaxLen"], apart := false, laid := [("unicode/utf8.acceptRanges", laid_unicode_utf8_acceptRanges), ("unicode/utf8.first", laid_unicode_utf8_first)] }
def SymmetryGroupSaid : Prop := symmetryGroupRow.holds Tryd.pinned (OpenSpec.ofChange symmetryGroupSpec)

/-- ITS FALSE NEIGHBOUR: 'it returns false'. Refute it at one input. -/
def symmetryGroupWrong : ChangeSpec := { name := "symmetryGroup", fn := fun _ => fun
  | [d] => { results := [.lit (.bool false)], args := [d] }
  | _ => none }
def SymmetryGroupWrongFalsely : Prop := symmetryGroupRow.holds Tryd.pinned (OpenSpec.ofChange symmetryGroupWrong)

/-- 'raddlelaw07.SymmetryLeast': WHATEVER THE INPUT: true; the input reads as it did. -/
def symmetryLeastSpec : ChangeSpec := { name := "symmetryLeast", fn := fun _ => fun
  | [d1, d2, d3, d4] => { results := [.lit (.bool true)], args := [d1, d2, d3, d4] }
  | _ => none }
def symmetryLeastRow : OpenClaim := { program := "ytliibficmdomjaadoor", sum := "1469c0a6c4232dcbd728e1a4bba5e3ac8193e58246041974764883b4fb3b46a7", func := "raddle/raddlelaw07.SymmetryLeast", spec := "symmetryLeast", inPlace := ["internal/bytealg.IndexByteString", "internal/bytealg.IndexString", "internal/bytealg.CountString"], unfollowed := true, recurses := true, named := ["unicode/utf8.first", "unicode/utf8.acceptRanges", "internal/bytealg.MaxLen"], apart := false, laid := [("unicode/utf8.acceptRanges", laid_unicode_utf8_acceptRanges), ("unicode/utf8.first", laid_unicode_utf8_first)] }
def SymmetryLeastSaid : Prop := symmetryLeastRow.holds Tryd.pinned (OpenSpec.ofChange symmetryLeastSpec)

/-- ITS FALSE NEIGHBOUR: 'it returns false'. Refute it at one input. -/
def symmetryLeastWrong : ChangeSpec := { name := "symmetryLeast", fn := fun _ => fun
  | [d1, d2, d3, d4] => { results := [.lit (.bool false)], args := [d1, d2, d3, d4] }
  | _ => none }
def SymmetryLeastWrongFalsely : Prop := symmetryLeastRow.holds Tryd.pinned (OpenSpec.ofChange symmetryLeastWrong)

/-- 'raddlelaw07.SymmetryNames': WHATEVER THE INPUT: true; the input reads as it did. -/
def symmetryNamesSpec : ChangeSpec := { name := "symmetryNames", fn := fun _ => fun
  | [] => { results := [.lit (.bool true)], args := [] }
  | _ => none }
def symmetryNamesRow : OpenClaim := { program := "ytliibficmdomjaadoor", sum := "1469c0a6c4232dcbd728e1a4bba5e3ac8193e58246041974764883b4fb3b46a7", func := "raddle/raddlelaw07.SymmetryNames", spec := "symmetryNames", inPlace := ["internal/bytealg.IndexByteString", "internal/bytealg.IndexString", "internal/bytealg.CountString", "internal/abi.NoEscape"], named := ["unicode/utf8.first", "unicode/utf8.acceptRanges", "internal/bytealg.MaxLen"], apart := false, laid := [("unicode/utf8.acceptRanges", laid_unicode_utf8_acceptRanges), ("unicode/utf8.first", laid_unicode_utf8_first)] }
def SymmetryNamesSaid : Prop := symmetryNamesRow.holds Tryd.pinned (OpenSpec.ofChange symmetryNamesSpec)

/-- ITS FALSE NEIGHBOUR: 'it returns false'. Refute it at one input. -/
def symmetryNamesWrong : ChangeSpec := { name := "symmetryNames", fn := fun _ => fun
  | [] => { results := [.lit (.bool false)], args := [] }
  | _ => none }
def SymmetryNamesWrongFalsely : Prop := symmetryNamesRow.holds Tryd.pinned (OpenSpec.ofChange symmetryNamesWrong)

/- THE SECOND FORM. 'bulk': how many values and letters a reading holds, each counted each time it is reached (what is shared counts as often as it is met; a slice's spare places count too). A statement '..UptoSaid' is the law's where the arguments, and the package variables that the reading takes, are together of bulk at most 1048576: NARROWER than '..Said'. Prove '..Said' where nothing that the law and all that it calls make is longer than what came in: it says more and counts as full. Else prove '..UptoSaid'. A law counts once. -/
mutual
def uptoBulk {H : Type} : DataW H → Nat
  | .lit (.string bytes) => bytes.length + 1
  | .lit _ => 1
  | .nil => 1
  | .ptr d => uptoBulk d + 1
  | .slice elems spare => uptoBulkAll elems + uptoBulkAll spare + 1
  | .agg parts => uptoBulkAll parts + 1
  | .iface _ d => uptoBulk d + 1
  | .map entries => uptoBulkEntries entries + 1
  | .held _ => 1
def uptoBulkAll {H : Type} : List (DataW H) → Nat
  | [] => 0
  | d :: r => uptoBulk d + uptoBulkAll r
def uptoBulkEntries {H : Type} : List (Lit × DataW H) → Nat
  | [] => 0
  | x :: r => uptoBulkEntry x + uptoBulkEntries r
def uptoBulkEntry {H : Type} : Lit × DataW H → Nat
  | (.string bytes, d) => bytes.length + uptoBulk d + 1
  | (_, d) => uptoBulk d + 1
 end
def uptoSmall : (H : Type) → List (DataW H) → Bool := fun _ ds => decide (uptoBulkAll ds ≤ 1048576)
def OpenSpec.upto (s : _root_.Go.ChangeSpec) : _root_.Go.OpenSpec := { _root_.Go.OpenSpec.ofChange s with cond := some uptoSmall }

/-- 'raddlelaw07.SymmetryCompose', WHERE WHAT IT READS IS OF BULK AT MOST 1048576: true; the input reads as it did. -/
def symmetryComposeUptoRow : OpenClaim := { program := "ytliibficmdomjaadoor", sum := "1469c0a6c4232dcbd728e1a4bba5e3ac8193e58246041974764883b4fb3b46a7", func := "raddle/raddlelaw07.SymmetryCompose", spec := "symmetryCompose", inPlace := ["internal/bytealg.IndexByteString", "internal/bytealg.IndexString", "internal/bytealg.CountString"], named := ["unicode/utf8.first", "unicode/utf8.acceptRanges", "internal/bytealg.MaxLen"], apart := false, laid := [("unicode/utf8.acceptRanges", laid_unicode_utf8_acceptRanges), ("unicode/utf8.first", laid_unicode_utf8_first)], narrowed := true }
def SymmetryComposeUptoSaid : Prop := symmetryComposeUptoRow.holds Tryd.pinned (OpenSpec.upto symmetryComposeSpec)

/-- 'raddlelaw07.SymmetryAlike', WHERE WHAT IT READS IS OF BULK AT MOST 1048576: true; the input reads as it did. -/
def symmetryAlikeUptoRow : OpenClaim := { program := "ytliibficmdomjaadoor", sum := "1469c0a6c4232dcbd728e1a4bba5e3ac8193e58246041974764883b4fb3b46a7", func := "raddle/raddlelaw07.SymmetryAlike", spec := "symmetryAlike", inPlace := ["internal/bytealg.IndexByteString", "internal/bytealg.IndexString", "internal/bytealg.CountString"], named := ["unicode/utf8.first", "unicode/utf8.acceptRanges", "internal/bytealg.MaxLen"], apart := false, laid := [("unicode/utf8.acceptRanges", laid_unicode_utf8_acceptRanges), ("unicode/utf8.first", laid_unicode_utf8_first)], narrowed := true }
def SymmetryAlikeUptoSaid : Prop := symmetryAlikeUptoRow.holds Tryd.pinned (OpenSpec.upto symmetryAlikeSpec)

/-- 'raddlelaw07.SymmetryGroup', WHERE WHAT IT READS IS OF BULK AT MOST 1048576: true; the input reads as it did. -/
def symmetryGroupUptoRow : OpenClaim := { program := "ytliibficmdomjaadoor", sum := "1469c0a6c4232dcbd728e1a4bba5e3ac8193e58246041974764883b4fb3b46a7", func := "raddle/raddlelaw07.SymmetryGroup", spec := "symmetryGroup", inPlace := ["internal/bytealg.IndexByteString", "internal/bytealg.IndexString", "internal/bytealg.CountString"], named := ["unicode/utf8.first", "unicode/utf8.acceptRanges", "internal/bytealg.MaxLen"], apart := false, laid := [("unicode/utf8.acceptRanges", laid_unicode_utf8_acceptRanges), ("unicode/utf8.first", laid_unicode_utf8_first)], narrowed := true }
def SymmetryGroupUptoSaid : Prop := symmetryGroupUptoRow.holds Tryd.pinned (OpenSpec.upto symmetryGroupSpec)

/-- 'raddlelaw07.SymmetryLeast', WHERE WHAT IT READS IS OF BULK AT MOST 1048576: true; the input reads as it did. -/
def symmetryLeastUptoRow : OpenClaim := { program := "ytliibficmdomjaadoor", sum := "1469c0a6c4232dcbd728e1a4bba5e3ac8193e58246041974764883b4fb3b46a7", func := "raddle/raddlelaw07.SymmetryLeast", spec := "symmetryLeast", inPlace := ["internal/bytealg.IndexByteString", "internal/bytealg.IndexString", "internal/bytealg.CountString"], unfollowed := true, recurses := true, named := ["unicode/utf8.first", "unicode/utf8.acceptRanges", "internal/bytealg.MaxLen"], apart := false, laid := [("unicode/utf8.acceptRanges", laid_unicode_utf8_acceptRanges), ("unicode/utf8.first", laid_unicode_utf8_first)], narrowed := true }
def SymmetryLeastUptoSaid : Prop := symmetryLeastUptoRow.holds Tryd.pinned (OpenSpec.upto symmetryLeastSpec)

/-- 'raddlelaw07.SymmetryNames', WHERE WHAT IT READS IS OF BULK AT MOST 1048576: true; the input reads as it did. -/
def symmetryNamesUptoRow : OpenClaim := { program := "ytliibficmdomjaadoor", sum := "1469c0a6c4232dcbd728e1a4bba5e3ac8193e58246041974764883b4fb3b46a7", func := "raddle/raddlelaw07.SymmetryNames", spec := "symmetryNames", inPlace := ["internal/bytealg.IndexByteString", "internal/bytealg.IndexString", "internal/bytealg.CountString", "internal/abi.NoEscape"], named := ["unicode/utf8.first", "unicode/utf8.acceptRanges", "internal/bytealg.MaxLen"], apart := false, laid := [("unicode/utf8.acceptRanges", laid_unicode_utf8_acceptRanges), ("unicode/utf8.first", laid_unicode_utf8_first)], narrowed := true }
def SymmetryNamesUptoSaid : Prop := symmetryNamesUptoRow.holds Tryd.pinned (OpenSpec.upto symmetryNamesSpec)

end Rows
end Go.Proofs.YtliibficmdomjaaDoor
