/-
  No cell of these rows narrows 'for every input' (looked for: loops, veiled, ifaces, maps, wideKeys, modest, calm, conditions, laid).
  DERIVED. THE GIVEN ROWS OF THIS SEAT. 7 by the template 'for every input the law returns true; each argument reads behind the call as it read before'; 0 by the template 'total and deterministic' (their statements: YtfjdlbilnoojkaaTotals.lean).
  GIVEN WITH THE SEED: the statements are not yours to turn. If you find one false, say at which input.
  Laid BY PROGRAM, IN A SANDBOX (cutbox-rows.mjs): the forced cells as the released guide's own fill.sh prints them over the translation ad11f5fbaeb3b28d… (all of the seat's roots in one cut). By AI agents, Wed Nov 11 2026. No macro, syntax, notation, axiom, sorry.
-/
import Derived.Test.YtfjdlbilnoojkaaChecked
import GoSem.Claim
import GoSem.ClaimJoined
import GoSem.ClaimMapViews
import Derived.JoinedTies
import Derived.KernelRfl
namespace Go.Proofs.Ytfjdlbilnoojkaa
/- THE CELL 'sum', in the pinned program and in every row, IS THE sha256 OF THE DUMP (.gsa) THAT YtfjdlbilnoojkaaProg.lean LOADS. Nothing in Lean hashes anything: it is a label: what it is worth is what the hold of that sum in a sandbox is worth. -/
noncomputable def Try.pinned : Pinned := { name := "ytfjdlbilnoojkaa", sum := "ad11f5fbaeb3b28dcdd0d35bdbea93b618196d832f3711cad92e31d7b3aa1bc5", checked := Try.checked }
namespace Rows
def none {H : Type} : Left H := { results := [], args := [] }

/-- 'raddlelaw20.LoomlogReplays': WHATEVER THE INPUT: true; the input reads as it did. -/
def loomlogReplaysSpec : ChangeSpec := { name := "loomlogReplays", fn := fun _ => fun
  | [d1, d2, d3] => { results := [.lit (.bool true)], args := [d1, d2, d3] }
  | _ => none }
def loomlogReplaysRow : OpenClaim := { program := "ytfjdlbilnoojkaa", sum := "ad11f5fbaeb3b28dcdd0d35bdbea93b618196d832f3711cad92e31d7b3aa1bc5", func := "raddle/raddlelaw20.LoomlogReplays", spec := "loomlogReplays", unfollowed := true, recurses := true, apart := false }
def LoomlogReplaysSaid : Prop := loomlogReplaysRow.holds Try.pinned (OpenSpec.ofChange loomlogReplaysSpec)

/-- ITS FALSE NEIGHBOUR: 'it returns false'. Refute it at one input. -/
def loomlogReplaysWrong : ChangeSpec := { name := "loomlogReplays", fn := fun _ => fun
  | [d1, d2, d3] => { results := [.lit (.bool false)], args := [d1, d2, d3] }
  | _ => none }
def LoomlogReplaysWrongFalsely : Prop := loomlogReplaysRow.holds Try.pinned (OpenSpec.ofChange loomlogReplaysWrong)

/-- 'raddlelaw20.LoomlogFaults': WHATEVER THE INPUT: true; the input reads as it did. -/
def loomlogFaultsSpec : ChangeSpec := { name := "loomlogFaults", fn := fun _ => fun
  | [d1, d2, d3, d4] => { results := [.lit (.bool true)], args := [d1, d2, d3, d4] }
  | _ => none }
def loomlogFaultsRow : OpenClaim := { program := "ytfjdlbilnoojkaa", sum := "ad11f5fbaeb3b28dcdd0d35bdbea93b618196d832f3711cad92e31d7b3aa1bc5", func := "raddle/raddlelaw20.LoomlogFaults", spec := "loomlogFaults", inPlace := ["slices.overlaps[[]bool]"], unfollowed := true, recurses := true, apart := false }
def LoomlogFaultsSaid : Prop := loomlogFaultsRow.holds Try.pinned (OpenSpec.ofChange loomlogFaultsSpec)

/-- ITS FALSE NEIGHBOUR: 'it returns false'. Refute it at one input. -/
def loomlogFaultsWrong : ChangeSpec := { name := "loomlogFaults", fn := fun _ => fun
  | [d1, d2, d3, d4] => { results := [.lit (.bool false)], args := [d1, d2, d3, d4] }
  | _ => none }
def LoomlogFaultsWrongFalsely : Prop := loomlogFaultsRow.holds Try.pinned (OpenSpec.ofChange loomlogFaultsWrong)

/-- 'raddlelaw20.LoomlogTrue': WHATEVER THE INPUT: true; the input reads as it did. -/
def loomlogTrueSpec : ChangeSpec := { name := "loomlogTrue", fn := fun _ => fun
  | [d1, d2] => { results := [.lit (.bool true)], args := [d1, d2] }
  | _ => none }
def loomlogTrueRow : OpenClaim := { program := "ytfjdlbilnoojkaa", sum := "ad11f5fbaeb3b28dcdd0d35bdbea93b618196d832f3711cad92e31d7b3aa1bc5", func := "raddle/raddlelaw20.LoomlogTrue", spec := "loomlogTrue", inPlace := ["slices.overlaps[[]bool]"], unfollowed := true, recurses := true, apart := false }
def LoomlogTrueSaid : Prop := loomlogTrueRow.holds Try.pinned (OpenSpec.ofChange loomlogTrueSpec)

/-- ITS FALSE NEIGHBOUR: 'it returns false'. Refute it at one input. -/
def loomlogTrueWrong : ChangeSpec := { name := "loomlogTrue", fn := fun _ => fun
  | [d1, d2] => { results := [.lit (.bool false)], args := [d1, d2] }
  | _ => none }
def LoomlogTrueWrongFalsely : Prop := loomlogTrueRow.holds Try.pinned (OpenSpec.ofChange loomlogTrueWrong)

/-- 'raddlelaw20.LoomlogMends': WHATEVER THE INPUT: true; the input reads as it did. -/
def loomlogMendsSpec : ChangeSpec := { name := "loomlogMends", fn := fun _ => fun
  | [d1, d2] => { results := [.lit (.bool true)], args := [d1, d2] }
  | _ => none }
def loomlogMendsRow : OpenClaim := { program := "ytfjdlbilnoojkaa", sum := "ad11f5fbaeb3b28dcdd0d35bdbea93b618196d832f3711cad92e31d7b3aa1bc5", func := "raddle/raddlelaw20.LoomlogMends", spec := "loomlogMends", inPlace := ["slices.overlaps[[]bool]"], unfollowed := true, recurses := true, apart := false }
def LoomlogMendsSaid : Prop := loomlogMendsRow.holds Try.pinned (OpenSpec.ofChange loomlogMendsSpec)

/-- ITS FALSE NEIGHBOUR: 'it returns false'. Refute it at one input. -/
def loomlogMendsWrong : ChangeSpec := { name := "loomlogMends", fn := fun _ => fun
  | [d1, d2] => { results := [.lit (.bool false)], args := [d1, d2] }
  | _ => none }
def LoomlogMendsWrongFalsely : Prop := loomlogMendsRow.holds Try.pinned (OpenSpec.ofChange loomlogMendsWrong)

/-- 'raddlelaw20.LoomlogBack': WHATEVER THE INPUT: true; the input reads as it did. -/
def loomlogBackSpec : ChangeSpec := { name := "loomlogBack", fn := fun _ => fun
  | [d1, d2] => { results := [.lit (.bool true)], args := [d1, d2] }
  | _ => none }
def loomlogBackRow : OpenClaim := { program := "ytfjdlbilnoojkaa", sum := "ad11f5fbaeb3b28dcdd0d35bdbea93b618196d832f3711cad92e31d7b3aa1bc5", func := "raddle/raddlelaw20.LoomlogBack", spec := "loomlogBack", inPlace := ["slices.overlaps[[]bool]"], unfollowed := true, recurses := true, apart := false }
def LoomlogBackSaid : Prop := loomlogBackRow.holds Try.pinned (OpenSpec.ofChange loomlogBackSpec)

/-- ITS FALSE NEIGHBOUR: 'it returns false'. Refute it at one input. -/
def loomlogBackWrong : ChangeSpec := { name := "loomlogBack", fn := fun _ => fun
  | [d1, d2] => { results := [.lit (.bool false)], args := [d1, d2] }
  | _ => none }
def LoomlogBackWrongFalsely : Prop := loomlogBackRow.holds Try.pinned (OpenSpec.ofChange loomlogBackWrong)

/-- 'raddlelaw20.LoomlogFound': WHATEVER THE INPUT: true; the input reads as it did. -/
def loomlogFoundSpec : ChangeSpec := { name := "loomlogFound", fn := fun _ => fun
  | [d1, d2, d3] => { results := [.lit (.bool true)], args := [d1, d2, d3] }
  | _ => none }
def loomlogFoundRow : OpenClaim := { program := "ytfjdlbilnoojkaa", sum := "ad11f5fbaeb3b28dcdd0d35bdbea93b618196d832f3711cad92e31d7b3aa1bc5", func := "raddle/raddlelaw20.LoomlogFound", spec := "loomlogFound", inPlace := ["slices.overlaps[[]bool]"], unfollowed := true, recurses := true, apart := false }
def LoomlogFoundSaid : Prop := loomlogFoundRow.holds Try.pinned (OpenSpec.ofChange loomlogFoundSpec)

/-- ITS FALSE NEIGHBOUR: 'it returns false'. Refute it at one input. -/
def loomlogFoundWrong : ChangeSpec := { name := "loomlogFound", fn := fun _ => fun
  | [d1, d2, d3] => { results := [.lit (.bool false)], args := [d1, d2, d3] }
  | _ => none }
def LoomlogFoundWrongFalsely : Prop := loomlogFoundRow.holds Try.pinned (OpenSpec.ofChange loomlogFoundWrong)

/-- 'raddlelaw20.LoomlogNames': WHATEVER THE INPUT: true; the input reads as it did. -/
def loomlogNamesSpec : ChangeSpec := { name := "loomlogNames", fn := fun _ => fun
  | [] => { results := [.lit (.bool true)], args := [] }
  | _ => none }
def loomlogNamesRow : OpenClaim := { program := "ytfjdlbilnoojkaa", sum := "ad11f5fbaeb3b28dcdd0d35bdbea93b618196d832f3711cad92e31d7b3aa1bc5", func := "raddle/raddlelaw20.LoomlogNames", spec := "loomlogNames", inPlace := ["slices.overlaps[[]bool]"], unfollowed := true, recurses := true, apart := false }
def LoomlogNamesSaid : Prop := loomlogNamesRow.holds Try.pinned (OpenSpec.ofChange loomlogNamesSpec)

/-- ITS FALSE NEIGHBOUR: 'it returns false'. Refute it at one input. -/
def loomlogNamesWrong : ChangeSpec := { name := "loomlogNames", fn := fun _ => fun
  | [] => { results := [.lit (.bool false)], args := [] }
  | _ => none }
def LoomlogNamesWrongFalsely : Prop := loomlogNamesRow.holds Try.pinned (OpenSpec.ofChange loomlogNamesWrong)

/- THE SECOND FORM. 'bulk': how many values and letters a reading holds, each counted each time it is reached (what is shared counts as often as it is met; a slice's spare places count too). A statement '..UptoSaid' is the law's where the arguments, and the package variables that the reading takes, are together of bulk at most 1048576: NARROWER than '..Said'. Prove '..Said' where nothing that the law and all that it calls make is longer than what came in: it says more and counts as full. Else prove '..UptoSaid'. A law counts once. -/
mutual
def uptoBulk {H : Type} : DataW H → Nat
  | .lit (.string bytes) => bytes.length + 1
  | .lit _ => 1
  | .nil => 1
  | .ptr d => uptoBulk d + 1
  | .slice elems spare => uptoBulkAll elems + uptoBulkAll spare + 1
  | .agg parts => uptoBulkAll parts + 1
  | .iface _ d => uptoBulk d + 1
  | .map entries => uptoBulkEntries entries + 1
  | .held _ => 1
def uptoBulkAll {H : Type} : List (DataW H) → Nat
  | [] => 0
  | d :: r => uptoBulk d + uptoBulkAll r
def uptoBulkEntries {H : Type} : List (Lit × DataW H) → Nat
  | [] => 0
  | x :: r => uptoBulkEntry x + uptoBulkEntries r
def uptoBulkEntry {H : Type} : Lit × DataW H → Nat
  | (.string bytes, d) => bytes.length + uptoBulk d + 1
  | (_, d) => uptoBulk d + 1
 end
def uptoSmall : (H : Type) → List (DataW H) → Bool := fun _ ds => decide (uptoBulkAll ds ≤ 1048576)
def OpenSpec.upto (s : _root_.Go.ChangeSpec) : _root_.Go.OpenSpec := { _root_.Go.OpenSpec.ofChange s with cond := some uptoSmall }

/-- 'raddlelaw20.LoomlogReplays', WHERE WHAT IT READS IS OF BULK AT MOST 1048576: true; the input reads as it did. -/
def loomlogReplaysUptoRow : OpenClaim := { program := "ytfjdlbilnoojkaa", sum := "ad11f5fbaeb3b28dcdd0d35bdbea93b618196d832f3711cad92e31d7b3aa1bc5", func := "raddle/raddlelaw20.LoomlogReplays", spec := "loomlogReplays", unfollowed := true, recurses := true, apart := false, narrowed := true }
def LoomlogReplaysUptoSaid : Prop := loomlogReplaysUptoRow.holds Try.pinned (OpenSpec.upto loomlogReplaysSpec)

/-- 'raddlelaw20.LoomlogFaults', WHERE WHAT IT READS IS OF BULK AT MOST 1048576: true; the input reads as it did. -/
def loomlogFaultsUptoRow : OpenClaim := { program := "ytfjdlbilnoojkaa", sum := "ad11f5fbaeb3b28dcdd0d35bdbea93b618196d832f3711cad92e31d7b3aa1bc5", func := "raddle/raddlelaw20.LoomlogFaults", spec := "loomlogFaults", inPlace := ["slices.overlaps[[]bool]"], unfollowed := true, recurses := true, apart := false, narrowed := true }
def LoomlogFaultsUptoSaid : Prop := loomlogFaultsUptoRow.holds Try.pinned (OpenSpec.upto loomlogFaultsSpec)

/-- 'raddlelaw20.LoomlogTrue', WHERE WHAT IT READS IS OF BULK AT MOST 1048576: true; the input reads as it did. -/
def loomlogTrueUptoRow : OpenClaim := { program := "ytfjdlbilnoojkaa", sum := "ad11f5fbaeb3b28dcdd0d35bdbea93b618196d832f3711cad92e31d7b3aa1bc5", func := "raddle/raddlelaw20.LoomlogTrue", spec := "loomlogTrue", inPlace := ["slices.overlaps[[]bool]"], unfollowed := true, recurses := true, apart := false, narrowed := true }
def LoomlogTrueUptoSaid : Prop := loomlogTrueUptoRow.holds Try.pinned (OpenSpec.upto loomlogTrueSpec)

/-- 'raddlelaw20.LoomlogMends', WHERE WHAT IT READS IS OF BULK AT MOST 1048576: true; the input reads as it did. -/
def loomlogMendsUptoRow : OpenClaim := { program := "ytfjdlbilnoojkaa", sum := "ad11f5fbaeb3b28dcdd0d35bdbea93b618196d832f3711cad92e31d7b3aa1bc5", func := "raddle/raddlelaw20.LoomlogMends", spec := "loomlogMends", inPlace := ["slices.overlaps[[]bool]"], unfollowed := true, recurses := true, apart := false, narrowed := true }
def LoomlogMendsUptoSaid : Prop := loomlogMendsUptoRow.holds Try.pinned (OpenSpec.upto loomlogMendsSpec)

/-- 'raddlelaw20.LoomlogBack', WHERE WHAT IT READS IS OF BULK AT MOST 1048576: true; the input reads as it did. -/
def loomlogBackUptoRow : OpenClaim := { program := "ytfjdlbilnoojkaa", sum := "ad11f5fbaeb3b28dcdd0d35bdbea93b618196d832f3711cad92e31d7b3aa1bc5", func := "raddle/raddlelaw20.LoomlogBack", spec := "loomlogBack", inPlace := ["slices.overlaps[[]bool]"], unfollowed := true, recurses := true, apart := false, narrowed := true }
def LoomlogBackUptoSaid : Prop := loomlogBackUptoRow.holds Try.pinned (OpenSpec.upto loomlogBackSpec)

/-- 'raddlelaw20.LoomlogFound', WHERE WHAT IT READS IS OF BULK AT MOST 1048576: true; the input reads as it did. -/
def loomlogFoundUptoRow : OpenClaim := { program := "ytfjdlbilnoojkaa", sum := "ad11f5fbaeb3b28dcdd0d35bdbea93b618196d832f3711cad92e31d7b3aa1bc5", func := "raddle/raddlelaw20.LoomlogFound", spec := "loomlogFound", inPlace := ["slices.overlaps[[]bool]"], unfollowed := true, recurses := true, apart := false, narrowed := true }
def LoomlogFoundUptoSaid : Prop := loomlogFoundUptoRow.holds Try.pinned (OpenSpec.upto loomlogFoundSpec)

/-- 'raddlelaw20.LoomlogNames', WHERE WHAT IT READS IS OF BULK AT MOST 1048576: true; the input reads as it did. -/
def loomlogNamesUptoRow : OpenClaim := { program := "ytfjdlbilnoojkaa", sum := "ad11f5fbaeb3b28dcdd0d35bdbea93b618196d832f3711cad92e31d7b3aa1bc5", func := "raddle/raddlelaw20.LoomlogNames", spec := "loomlogNames", inPlace := ["slices.overlaps[[]bool]"], unfollowed := true, recurses := true, apart := false, narrowed := true }
def LoomlogNamesUptoSaid : Prop := loomlogNamesUptoRow.holds Try.pinned (OpenSpec.upto loomlogNamesSpec)

end Rows
end Go.Proofs.Ytfjdlbilnoojkaa
