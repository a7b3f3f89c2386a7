/-
  No cell of these rows narrows 'for every input' (looked for: loops, veiled, ifaces, maps, wideKeys, modest, calm, conditions, laid).
  DERIVED. THE GIVEN ROWS OF THIS SEAT. 3 by the template 'for every input the law returns true; each argument reads behind the call as it read before'; 0 by the template 'total and deterministic' (their statements: YtliibficmdomjaaTotals.lean).
  GIVEN WITH THE SEED: the statements are not yours to turn. If you find one false, say at which input.
  Laid BY PROGRAM, IN A SANDBOX (cutbox-rows.mjs): the forced cells as the released guide's own fill.sh prints them over the translation 867be8cafbdf6bc8… (all of the seat's roots in one cut). By AI agents, Wed Nov 11 2026. No macro, syntax, notation, axiom, sorry.
-/
import Derived.Test.YtliibficmdomjaaChecked
import GoSem.Claim
import GoSem.ClaimJoined
import GoSem.ClaimMapViews
import Derived.JoinedTies
import Derived.KernelRfl
namespace Go.Proofs.Ytliibficmdomjaa
/- THE CELL 'sum', in the pinned program and in every row, IS THE sha256 OF THE DUMP (.gsa) THAT YtliibficmdomjaaProg.lean LOADS. Nothing in Lean hashes anything: it is a label: what it is worth is what the hold of that sum in a sandbox is worth. -/
noncomputable def Try.pinned : Pinned := { name := "ytliibficmdomjaa", sum := "867be8cafbdf6bc89566f7a4c38b413001cee6b0c9be55467eae2b05c276ca30", checked := Try.checked }
namespace Rows
def none {H : Type} : Left H := { results := [], args := [] }

/-- 'raddlelaw07.SymmetryApplies': WHATEVER THE INPUT: true; the input reads as it did. -/
def symmetryAppliesSpec : ChangeSpec := { name := "symmetryApplies", fn := fun _ => fun
  | [d1, d2, d3] => { results := [.lit (.bool true)], args := [d1, d2, d3] }
  | _ => none }
def symmetryAppliesRow : OpenClaim := { program := "ytliibficmdomjaa", sum := "867be8cafbdf6bc89566f7a4c38b413001cee6b0c9be55467eae2b05c276ca30", func := "raddle/raddlelaw07.SymmetryApplies", spec := "symmetryApplies", apart := false }
def SymmetryAppliesSaid : Prop := symmetryAppliesRow.holds Try.pinned (OpenSpec.ofChange symmetryAppliesSpec)

/-- ITS FALSE NEIGHBOUR: 'it returns false'. Refute it at one input. -/
def symmetryAppliesWrong : ChangeSpec := { name := "symmetryApplies", fn := fun _ => fun
  | [d1, d2, d3] => { results := [.lit (.bool false)], args := [d1, d2, d3] }
  | _ => none }
def SymmetryAppliesWrongFalsely : Prop := symmetryAppliesRow.holds Try.pinned (OpenSpec.ofChange symmetryAppliesWrong)

/-- 'raddlelaw07.SymmetryForms': WHATEVER THE INPUT: true; the input reads as it did. -/
def symmetryFormsSpec : ChangeSpec := { name := "symmetryForms", fn := fun _ => fun
  | [d] => { results := [.lit (.bool true)], args := [d] }
  | _ => none }
def symmetryFormsRow : OpenClaim := { program := "ytliibficmdomjaa", sum := "867be8cafbdf6bc89566f7a4c38b413001cee6b0c9be55467eae2b05c276ca30", func := "raddle/raddlelaw07.SymmetryForms", spec := "symmetryForms", apart := false }
def SymmetryFormsSaid : Prop := symmetryFormsRow.holds Try.pinned (OpenSpec.ofChange symmetryFormsSpec)

/-- ITS FALSE NEIGHBOUR: 'it returns false'. Refute it at one input. -/
def symmetryFormsWrong : ChangeSpec := { name := "symmetryForms", fn := fun _ => fun
  | [d] => { results := [.lit (.bool false)], args := [d] }
  | _ => none }
def SymmetryFormsWrongFalsely : Prop := symmetryFormsRow.holds Try.pinned (OpenSpec.ofChange symmetryFormsWrong)

/-- 'raddlelaw07.SymmetryAsks': WHATEVER THE INPUT: true; the input reads as it did. -/
def symmetryAsksSpec : ChangeSpec := { name := "symmetryAsks", fn := fun _ => fun
  | [d1, d2, d3] => { results := [.lit (.bool true)], args := [d1, d2, d3] }
  | _ => none }
def symmetryAsksRow : OpenClaim := { program := "ytliibficmdomjaa", sum := "867be8cafbdf6bc89566f7a4c38b413001cee6b0c9be55467eae2b05c276ca30", func := "raddle/raddlelaw07.SymmetryAsks", spec := "symmetryAsks", apart := false }
def SymmetryAsksSaid : Prop := symmetryAsksRow.holds Try.pinned (OpenSpec.ofChange symmetryAsksSpec)

/-- ITS FALSE NEIGHBOUR: 'it returns false'. Refute it at one input. -/
def symmetryAsksWrong : ChangeSpec := { name := "symmetryAsks", fn := fun _ => fun
  | [d1, d2, d3] => { results := [.lit (.bool false)], args := [d1, d2, d3] }
  | _ => none }
def SymmetryAsksWrongFalsely : Prop := symmetryAsksRow.holds Try.pinned (OpenSpec.ofChange symmetryAsksWrong)

/- THE SECOND FORM. 'bulk': how many values and letters a reading holds, each counted each time it is reached (what is shared counts as often as it is met; a slice's spare places count too). A statement '..UptoSaid' is the law's where the arguments, and the package variables that the reading takes, are together of bulk at most 1048576: NARROWER than '..Said'. Prove '..Said' where nothing that the law and all that it calls make is longer than what came in: it says more and counts as full. Else prove '..UptoSaid'. A law counts once. -/
mutual
def uptoBulk {H : Type} : DataW H → Nat
  | .lit (.string bytes) => bytes.length + 1
  | .lit _ => 1
  | .nil => 1
  | .ptr d => uptoBulk d + 1
  | .slice elems spare => uptoBulkAll elems + uptoBulkAll spare + 1
  | .agg parts => uptoBulkAll parts + 1
  | .iface _ d => uptoBulk d + 1
  | .map entries => uptoBulkEntries entries + 1
  | .held _ => 1
def uptoBulkAll {H : Type} : List (DataW H) → Nat
  | [] => 0
  | d :: r => uptoBulk d + uptoBulkAll r
def uptoBulkEntries {H : Type} : List (Lit × DataW H) → Nat
  | [] => 0
  | x :: r => uptoBulkEntry x + uptoBulkEntries r
def uptoBulkEntry {H : Type} : Lit × DataW H → Nat
  | (.string bytes, d) => bytes.length + uptoBulk d + 1
  | (_, d) => uptoBulk d + 1
 end
def uptoSmall : (H : Type) → List (DataW H) → Bool := fun _ ds => decide (uptoBulkAll ds ≤ 1048576)
def OpenSpec.upto (s : _root_.Go.ChangeSpec) : _root_.Go.OpenSpec := { _root_.Go.OpenSpec.ofChange s with cond := some uptoSmall }

/-- 'raddlelaw07.SymmetryApplies', WHERE WHAT IT READS IS OF BULK AT MOST 1048576: true; the input reads as it did. -/
def symmetryAppliesUptoRow : OpenClaim := { program := "ytliibficmdomjaa", sum := "867be8cafbdf6bc89566f7a4c38b413001cee6b0c9be55467eae2b05c276ca30", func := "raddle/raddlelaw07.SymmetryApplies", spec := "symmetryApplies", apart := false, narrowed := true }
def SymmetryAppliesUptoSaid : Prop := symmetryAppliesUptoRow.holds Try.pinned (OpenSpec.upto symmetryAppliesSpec)

/-- 'raddlelaw07.SymmetryForms', WHERE WHAT IT READS IS OF BULK AT MOST 1048576: true; the input reads as it did. -/
def symmetryFormsUptoRow : OpenClaim := { program := "ytliibficmdomjaa", sum := "867be8cafbdf6bc89566f7a4c38b413001cee6b0c9be55467eae2b05c276ca30", func := "raddle/raddlelaw07.SymmetryForms", spec := "symmetryForms", apart := false, narrowed := true }
def SymmetryFormsUptoSaid : Prop := symmetryFormsUptoRow.holds Try.pinned (OpenSpec.upto symmetryFormsSpec)

/-- 'raddlelaw07.SymmetryAsks', WHERE WHAT IT READS IS OF BULK AT MOST 1048576: true; the input reads as it did. -/
def symmetryAsksUptoRow : OpenClaim := { program := "ytliibficmdomjaa", sum := "867be8cafbdf6bc89566f7a4c38b413001cee6b0c9be55467eae2b05c276ca30", func := "raddle/raddlelaw07.SymmetryAsks", spec := "symmetryAsks", apart := false, narrowed := true }
def SymmetryAsksUptoSaid : Prop := symmetryAsksUptoRow.holds Try.pinned (OpenSpec.upto symmetryAsksSpec)

end Rows
end Go.Proofs.Ytliibficmdomjaa
