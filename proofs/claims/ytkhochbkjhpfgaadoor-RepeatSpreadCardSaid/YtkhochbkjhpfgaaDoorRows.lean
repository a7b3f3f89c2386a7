/-
  NARROWER THAN 'FOR EVERY INPUT', by the rows' own cells (each row's printed sentence says how): RepeatSteps: laid · RepeatExactly: laid · RepeatSpread: laid · RepeatMoved: laid · RepeatNames: laid.
  DERIVED. THE GIVEN ROWS OF THIS SEAT. 5 by the template 'for every input the law returns true; each argument reads behind the call as it read before'; 0 by the template 'total and deterministic' (their statements: YtkhochbkjhpfgaaDoorTotals.lean).
  GIVEN WITH THE SEED: the statements are not yours to turn. If you find one false, say at which input.
  Laid BY PROGRAM, IN A SANDBOX (cutbox-rows.mjs): the forced cells as the released guide's own fill.sh prints them over the translation cbf0839e3f938311… (all of the seat's roots in one cut). By AI agents, Wed Nov 11 2026. No macro, syntax, notation, axiom, sorry.
-/
import Derived.Test.YtkhochbkjhpfgaaDoorChecked
import GoSem.PinnedTables
import GoSem.Claim
import GoSem.ClaimJoined
import GoSem.ClaimMapViews
import Derived.JoinedTies
import Derived.KernelRfl
namespace Go.Proofs.YtkhochbkjhpfgaaDoor
/- THE CELL 'sum', in the pinned program and in every row, IS THE sha256 OF THE DUMP (.gsa) THAT YtkhochbkjhpfgaaDoorProg.lean LOADS. Nothing in Lean hashes anything: it is a label: what it is worth is what the hold of that sum in a sandbox is worth. -/
noncomputable def Tryd.pinned : Pinned := { name := "ytkhochbkjhpfgaadoor", sum := "cbf0839e3f938311e37aa6bb8f8285145b54045f070662541ed081de9666f426", checked := Tryd.checked }
namespace Rows
def none {H : Type} : Left H := { results := [], args := [] }

/- WHAT THE LISTED PACKAGE-LEVEL VARIABLES READ AS WHEN THE CALL BEGINS. Each datum BY PROGRAM (the guide's laid-datum.mjs) off the statement by which the dump's own 'gosem.cut.vars' lays the variable. In a bare row this is a premise. The card (YtkhochbkjhpfgaaDoorCards.lean) ties it to the program's text. -/
def laid_unicode_utf8_acceptRanges {H : Type} : DataW H := .agg [.agg [.lit (.int .u8 128), .lit (.int .u8 191)], .agg [.lit (.int .u8 160), .lit (.int .u8 191)], .agg [.lit (.int .u8 128), .lit (.int .u8 159)], .agg [.lit (.int .u8 144), .lit (.int .u8 191)], .agg [.lit (.int .u8 128), .lit (.int .u8 143)], .agg [.lit (.int .u8 0), .lit (.int .u8 0)], .agg [.lit (.int .u8 0), .lit (.int .u8 0)], .agg [.lit (.int .u8 0), .lit (.int .u8 0)], .agg [.lit (.int .u8 0), .lit (.int .u8 0)], .agg [.lit (.int .u8 0), .lit (.int .u8 0)], .agg [.lit (.int .u8 0), .lit (.int .u8 0)], .agg [.lit (.int .u8 0), .lit (.int .u8 0)], .agg [.lit (.int .u8 0), .lit (.int .u8 0)], .agg [.lit (.int .u8 0), .lit (.int .u8 0)], .agg [.lit (.int .u8 0), .lit (.int .u8 0)], .agg [.lit (.int .u8 0), .lit (.int .u8 0)]]
/-- One of Go's own tables, pinned by name: the form's constant. -/
def laid_unicode_utf8_first : DataW Unit := Go.Pinned.utf8First

/-- 'raddlelaw06.RepeatSteps': WHATEVER THE INPUT: true; the input reads as it did. -/
def repeatStepsSpec : ChangeSpec := { name := "repeatSteps", fn := fun _ => fun
  | [d1, d2, d3, d4, d5] => { results := [.lit (.bool true)], args := [d1, d2, d3, d4, d5] }
  | _ => none }
def repeatStepsRow : OpenClaim := { program := "ytkhochbkjhpfgaadoor", sum := "cbf0839e3f938311e37aa6bb8f8285145b54045f070662541ed081de9666f426", func := "raddle/raddlelaw06.RepeatSteps", spec := "repeatSteps", inPlace := ["internal/bytealg.IndexByteString", "internal/bytealg.IndexString", "internal/bytealg.CountString", "internal/abi.NoEscape"], unfollowed := true, recurses := true, named := ["unicode/utf8.first", "unicode/utf8.acceptRanges", "internal/bytealg.MaxLen"], apart := false, laid := [("unicode/utf8.acceptRanges", laid_unicode_utf8_acceptRanges), ("unicode/utf8.first", laid_unicode_utf8_first)] }
def RepeatStepsSaid : Prop := repeatStepsRow.holds Tryd.pinned (OpenSpec.ofChange repeatStepsSpec)

/-- ITS FALSE NEIGHBOUR: 'it returns false'. Refute it at one input. -/
def repeatStepsWrong : ChangeSpec := { name := "repeatSteps", fn := fun _ => fun
  | [d1, d2, d3, d4, d5] => { results := [.lit (.bool false)], args := [d1, d2, d3, d4, d5] }
  | _ => none }
def RepeatStepsWrongFalsely : Prop := repeatStepsRow.holds Tryd.pinned (OpenSpec.ofChange repeatStepsWrong)

/-- 'raddlelaw06.RepeatExactly': WHATEVER THE INPUT: true; the input reads as it did. -/
def repeatExactlySpec : ChangeSpec := { name := "repeatExactly", fn := fun _ => fun
  | [d1, d2, d3] => { results := [.lit (.bool true)], args := [d1, d2, d3] }
  | _ => none }
def repeatExactlyRow : OpenClaim := { program := "ytkhochbkjhpfgaadoor", sum := "cbf0839e3f938311e37aa6bb8f8285145b54045f070662541ed081de9666f426", func := "raddle/raddlelaw06.RepeatExactly", spec := "repeatExactly", inPlace := ["internal/bytealg.IndexByteString", "internal/bytealg.IndexString", "internal/bytealg.CountString", "internal/abi.NoEscape"], unfollowed := true, recurses := true, named := ["unicode/utf8.first", "unicode/utf8.acceptRanges", "internal/bytealg.MaxLen"], apart := false, laid := [("unicode/utf8.acceptRanges", laid_unicode_utf8_acceptRanges), ("unicode/utf8.first", laid_unicode_utf8_first)] }
def RepeatExactlySaid : Prop := repeatExactlyRow.holds Tryd.pinned (OpenSpec.ofChange repeatExactlySpec)

/-- ITS FALSE NEIGHBOUR: 'it returns false'. Refute it at one input. -/
def repeatExactlyWrong : ChangeSpec := { name := "repeatExactly", fn := fun _ => fun
  | [d1, d2, d3] => { results := [.lit (.bool false)], args := [d1, d2, d3] }
  | _ => none }
def RepeatExactlyWrongFalsely : Prop := repeatExactlyRow.holds Tryd.pinned (OpenSpec.ofChange repeatExactlyWrong)

/-- 'raddlelaw06.RepeatSpread': WHATEVER THE INPUT: true; the input reads as it did. -/
def repeatSpreadSpec : ChangeSpec := { name := "repeatSpread", fn := fun _ => fun
  | [d] => { results := [.lit (.bool true)], args := [d] }
  | _ => none }
def repeatSpreadRow : OpenClaim := { program := "ytkhochbkjhpfgaadoor", sum := "cbf0839e3f938311e37aa6bb8f8285145b54045f070662541ed081de9666f426", func := "raddle/raddlelaw06.RepeatSpread", spec := "repeatSpread", inPlace := ["internal/bytealg.IndexByteString", "internal/bytealg.IndexString", "internal/bytealg.CountString", "internal/abi.NoEscape"], unfollowed := true, recurses := true, named := ["unicode/utf8.first", "unicode/utf8.acceptRanges", "internal/bytealg.MaxLen"], apart := false, laid := [("unicode/utf8.acceptRanges", laid_unicode_utf8_acceptRanges), ("unicode/utf8.first", laid_unicode_utf8_first)] }
def RepeatSpreadSaid : Prop := repeatSpreadRow.holds Tryd.pinned (OpenSpec.ofChange repeatSpreadSpec)

/-- ITS FALSE NEIGHBOUR: 'it returns false'. Refute it at one input. -/
def repeatSpreadWrong : ChangeSpec := { name := "repeatSpread", fn := fun _ => fun
  | [d] => { results := [.lit (.bool false)], args := [d] }
  | _ => none }
def RepeatSpreadWrongFalsely : Prop := repeatSpreadRow.holds Tryd.pinned (OpenSpec.ofChange repeatSpreadWrong)

/-- 'raddlelaw06.RepeatMoved': WHATEVER THE INPUT: true; the input reads as it did. -/
def repeatMovedSpec : ChangeSpec := { name := "repeatMoved", fn := fun _ => fun
  | [d1, d2, d3, d4] => { results := [.lit (.bool true)], args := [d1, d2, d3, d4] }
  | _ => none }
def repeatMovedRow : OpenClaim := { program := "ytkhochbkjhpfgaadoor", sum := "cbf0839e3f938311e37aa6bb8f8285145b54045f070662541ed081de9666f426", func := "raddle/raddlelaw06.RepeatMoved", spec := "repeatMoved", inPlace := ["internal/bytealg.IndexByteString", "internal/bytealg.IndexString", "internal/bytealg.CountString", "internal/abi.NoEscape"], unfollowed := true, recurses := true, named := ["unicode/utf8.first", "unicode/utf8.acceptRanges", "internal/bytealg.MaxLen"], apart := false, laid := [("unicode/utf8.acceptRanges", laid_unicode_utf8_acceptRanges), ("unicode/utf8.first", laid_unicode_utf8_first)] }
def RepeatMovedSaid : Prop := repeatMovedRow.holds Tryd.pinned (OpenSpec.ofChange repeatMovedSpec)

/-- ITS FALSE NEIGHBOUR: 'it returns false'. Refute it at one input. -/
def repeatMovedWrong : ChangeSpec := { name := "repeatMoved", fn := fun _ => fun
  | [d1, d2, d3, d4] => { results := [.lit (.bool false)], args := [d1, d2, d3, d4] }
  | _ => none }
def RepeatMovedWrongFalsely : Prop := repeatMovedRow.holds Tryd.pinned (OpenSpec.ofChange repeatMovedWrong)

/-- 'raddlelaw06.RepeatNames': WHATEVER THE INPUT: true; the input reads as it did. -/
def repeatNamesSpec : ChangeSpec := { name := "repeatNames", fn := fun _ => fun
  | [] => { results := [.lit (.bool true)], args := [] }
  | _ => none }
def repeatNamesRow : OpenClaim := { program := "ytkhochbkjhpfgaadoor", sum := "cbf0839e3f938311e37aa6bb8f8285145b54045f070662541ed081de9666f426", func := "raddle/raddlelaw06.RepeatNames", spec := "repeatNames", inPlace := ["internal/bytealg.IndexByteString", "internal/bytealg.IndexString", "internal/bytealg.CountString", "internal/abi.NoEscape"], unfollowed := true, recurses := true, named := ["unicode/utf8.first", "unicode/utf8.acceptRanges", "internal/bytealg.MaxLen"], apart := false, laid := [("unicode/utf8.acceptRanges", laid_unicode_utf8_acceptRanges), ("unicode/utf8.first", laid_unicode_utf8_first)] }
def RepeatNamesSaid : Prop := repeatNamesRow.holds Tryd.pinned (OpenSpec.ofChange repeatNamesSpec)

/-- ITS FALSE NEIGHBOUR: 'it returns false'. Refute it at one input. -/
def repeatNamesWrong : ChangeSpec := { name := "repeatNames", fn := fun _ => fun
  | [] => { results := [.lit (.bool false)], args := [] }
  | _ => none }
def RepeatNamesWrongFalsely : Prop := repeatNamesRow.holds Tryd.pinned (OpenSpec.ofChange repeatNamesWrong)

/- THE SECOND FORM. 'bulk': how many values and letters a reading holds, each counted each time it is reached (what is shared counts as often as it is met; a slice's spare places count too). A statement '..UptoSaid' is the law's where the arguments, and the package variables that the reading takes, are together of bulk at most 1048576: NARROWER than '..Said'. Prove '..Said' where nothing that the law and all that it calls make is longer than what came in: it says more and counts as full. Else prove '..UptoSaid'. A law counts once. -/
mutual
def uptoBulk {H : Type} : DataW H → Nat
  | .lit (.string bytes) => bytes.length + 1
  | .lit _ => 1
  | .nil => 1
  | .ptr d => uptoBulk d + 1
  | .slice elems spare => uptoBulkAll elems + uptoBulkAll spare + 1
  | .agg parts => uptoBulkAll parts + 1
  | .iface _ d => uptoBulk d + 1
  | .map entries => uptoBulkEntries entries + 1
  | .held _ => 1
def uptoBulkAll {H : Type} : List (DataW H) → Nat
  | [] => 0
  | d :: r => uptoBulk d + uptoBulkAll r
def uptoBulkEntries {H : Type} : List (Lit × DataW H) → Nat
  | [] => 0
  | x :: r => uptoBulkEntry x + uptoBulkEntries r
def uptoBulkEntry {H : Type} : Lit × DataW H → Nat
  | (.string bytes, d) => bytes.length + uptoBulk d + 1
  | (_, d) => uptoBulk d + 1
 end
def uptoSmall : (H : Type) → List (DataW H) → Bool := fun _ ds => decide (uptoBulkAll ds ≤ 1048576)
def OpenSpec.upto (s : _root_.Go.ChangeSpec) : _root_.Go.OpenSpec := { _root_.Go.OpenSpec.ofChange s with cond := some uptoSmall }

/-- 'raddlelaw06.RepeatSteps', WHERE WHAT IT READS IS OF BULK AT MOST 1048576: true; the input reads as it did. -/
def repeatStepsUptoRow : OpenClaim := { program := "ytkhochbkjhpfgaadoor", sum := "cbf0839e3f938311e37aa6bb8f8285145b54045f070662541ed081de9666f426", func := "raddle/raddlelaw06.RepeatSteps", spec := "repeatSteps", inPlace := ["internal/bytealg.IndexByteString", "internal/bytealg.IndexString", "internal/bytealg.CountString", "internal/abi.NoEscape"], unfollowed := true, recurses := true, named := ["unicode/utf8.first", "unicode/utf8.acceptRanges", "internal/bytealg.MaxLen"], apart := false, laid := [("unicode/utf8.acceptRanges", laid_unicode_utf8_acceptRanges), ("unicode/utf8.first", laid_unicode_utf8_first)], narrowed := true }
def RepeatStepsUptoSaid : Prop := repeatStepsUptoRow.holds Tryd.pinned (OpenSpec.upto repeatStepsSpec)

/-- 'raddlelaw06.RepeatExactly', WHERE WHAT IT READS IS OF BULK AT MOST 1048576: true; the input reads as it did. -/
def repeatExactlyUptoRow : OpenClaim := { program := "ytkhochbkjhpfgaadoor", sum := "cbf0839e3f938311e37aa6bb8f8285145b54045f070662541ed081de9666f426", func := "raddle/raddlelaw06.RepeatExactly", spec := "repeatExactly", inPlace := ["internal/bytealg.IndexByteString", "internal/bytealg.IndexString", "internal/bytealg.CountString", "internal/abi.NoEscape"], unfollowed := true, recurses := true, named := ["unicode/utf8.first", "unicode/utf8.acceptRanges", "internal/bytealg.MaxLen"], apart := false, laid := [("unicode/utf8.acceptRanges", laid_unicode_utf8_acceptRanges), ("unicode/utf8.first", laid_unicode_utf8_first)], narrowed := true }
def RepeatExactlyUptoSaid : Prop := repeatExactlyUptoRow.holds Tryd.pinned (OpenSpec.upto repeatExactlySpec)

/-- 'raddlelaw06.RepeatSpread', WHERE WHAT IT READS IS OF BULK AT MOST 1048576: true; the input reads as it did. -/
def repeatSpreadUptoRow : OpenClaim := { program := "ytkhochbkjhpfgaadoor", sum := "cbf0839e3f938311e37aa6bb8f8285145b54045f070662541ed081de9666f426", func := "raddle/raddlelaw06.RepeatSpread", spec := "repeatSpread", inPlace := ["internal/bytealg.IndexByteString", "internal/bytealg.IndexString", "internal/bytealg.CountString", "internal/abi.NoEscape"], unfollowed := true, recurses := true, named := ["unicode/utf8.first", "unicode/utf8.acceptRanges", "internal/bytealg.MaxLen"], apart := false, laid := [("unicode/utf8.acceptRanges", laid_unicode_utf8_acceptRanges), ("unicode/utf8.first", laid_unicode_utf8_first)], narrowed := true }
def RepeatSpreadUptoSaid : Prop := repeatSpreadUptoRow.holds Tryd.pinned (OpenSpec.upto repeatSpreadSpec)

/-- 'raddlelaw06.RepeatMoved', WHERE WHAT IT READS IS OF BULK AT MOST 1048576: true; the input reads as it did. -/
def repeatMovedUptoRow : OpenClaim := { program := "ytkhochbkjhpfgaadoor", sum := "cbf0839e3f938311e37aa6bb8f8285145b54045f070662541ed081de9666f426", func := "raddle/raddlelaw06.RepeatMoved", spec := "repeatMoved", inPlace := ["internal/bytealg.IndexByteString", "internal/bytealg.IndexString", "internal/bytealg.CountString", "internal/abi.NoEscape"], unfollowed := true, recurses := true, named := ["unicode/utf8.first", "unicode/utf8.acceptRanges", "internal/bytealg.MaxLen"], apart := false, laid := [("unicode/utf8.acceptRanges", laid_unicode_utf8_acceptRanges), ("unicode/utf8.first", laid_unicode_utf8_first)], narrowed := true }
def RepeatMovedUptoSaid : Prop := repeatMovedUptoRow.holds Tryd.pinned (OpenSpec.upto repeatMovedSpec)

/-- 'raddlelaw06.RepeatNames', WHERE WHAT IT READS IS OF BULK AT MOST 1048576: true; the input reads as it did. -/
def repeatNamesUptoRow : OpenClaim := { program := "ytkhochbkjhpfgaadoor", sum := "cbf0839e3f938311e37aa6bb8f8285145b54045f070662541ed081de9666f426", func := "raddle/raddlelaw06.RepeatNames", spec := "repeatNames", inPlace := ["internal/bytealg.IndexByteString", "internal/bytealg.IndexString", "internal/bytealg.CountString", "internal/abi.NoEscape"], unfollowed := true, recurses := true, named := ["unicode/utf8.first", "unicode/utf8.acceptRanges", "internal/bytealg.MaxLen"], apart := false, laid := [("unicode/utf8.acceptRanges", laid_unicode_utf8_acceptRanges), ("unicode/utf8.first", laid_unicode_utf8_first)], narrowed := true }
def RepeatNamesUptoSaid : Prop := repeatNamesUptoRow.holds Tryd.pinned (OpenSpec.upto repeatNamesSpec)

end Rows
end Go.Proofs.YtkhochbkjhpfgaaDoor
