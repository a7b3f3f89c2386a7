/-
  No cell of these rows narrows 'for every input' (looked for: loops, veiled, ifaces, maps, wideKeys, modest, calm, conditions, laid).
  DERIVED. THE GIVEN ROWS OF THIS SEAT. 7 by the template 'for every input the law returns true; each argument reads behind the call as it read before'; 0 by the template 'total and deterministic' (their statements: YtbgekiifffnalaaTotals.lean).
  GIVEN WITH THE SEED: the statements are not yours to turn. If you find one false, say at which input.
  Laid BY PROGRAM, IN A SANDBOX (cutbox-rows.mjs): the forced cells as the released guide's own fill.sh prints them over the translation 6b285ad493a1095e… (all of the seat's roots in one cut). By AI agents, Wed Nov 11 2026. No macro, syntax, notation, axiom, sorry.
-/
import Derived.Test.YtbgekiifffnalaaChecked
import GoSem.Claim
import GoSem.ClaimJoined
import GoSem.ClaimMapViews
import Derived.JoinedTies
import Derived.KernelRfl
namespace Go.Proofs.Ytbgekiifffnalaa
/- THE CELL 'sum', in the pinned program and in every row, IS THE sha256 OF THE DUMP (.gsa) THAT YtbgekiifffnalaaProg.lean LOADS. Nothing in Lean hashes anything: it is a label: what it is worth is what the hold of that sum in a sandbox is worth. -/
noncomputable def Try.pinned : Pinned := { name := "ytbgekiifffnalaa", sum := "6b285ad493a1095e129e959524f0aae88099c4739c1dda1053090a3386f71a8b", checked := Try.checked }
namespace Rows
def none {H : Type} : Left H := { results := [], args := [] }

/-- 'raddlelaw09.SatinAsks': WHATEVER THE INPUT: true; the input reads as it did. -/
def satinAsksSpec : ChangeSpec := { name := "satinAsks", fn := fun _ => fun
  | [d] => { results := [.lit (.bool true)], args := [d] }
  | _ => none }
def satinAsksRow : OpenClaim := { program := "ytbgekiifffnalaa", sum := "6b285ad493a1095e129e959524f0aae88099c4739c1dda1053090a3386f71a8b", func := "raddle/raddlelaw09.SatinAsks", spec := "satinAsks", unfollowed := true, recurses := true, apart := false }
def SatinAsksSaid : Prop := satinAsksRow.holds Try.pinned (OpenSpec.ofChange satinAsksSpec)

/-- ITS FALSE NEIGHBOUR: 'it returns false'. Refute it at one input. -/
def satinAsksWrong : ChangeSpec := { name := "satinAsks", fn := fun _ => fun
  | [d] => { results := [.lit (.bool false)], args := [d] }
  | _ => none }
def SatinAsksWrongFalsely : Prop := satinAsksRow.holds Try.pinned (OpenSpec.ofChange satinAsksWrong)

/-- 'raddlelaw09.SatinMakes': WHATEVER THE INPUT: true; the input reads as it did. -/
def satinMakesSpec : ChangeSpec := { name := "satinMakes", fn := fun _ => fun
  | [d1, d2, d3, d4, d5] => { results := [.lit (.bool true)], args := [d1, d2, d3, d4, d5] }
  | _ => none }
def satinMakesRow : OpenClaim := { program := "ytbgekiifffnalaa", sum := "6b285ad493a1095e129e959524f0aae88099c4739c1dda1053090a3386f71a8b", func := "raddle/raddlelaw09.SatinMakes", spec := "satinMakes", apart := false }
def SatinMakesSaid : Prop := satinMakesRow.holds Try.pinned (OpenSpec.ofChange satinMakesSpec)

/-- ITS FALSE NEIGHBOUR: 'it returns false'. Refute it at one input. -/
def satinMakesWrong : ChangeSpec := { name := "satinMakes", fn := fun _ => fun
  | [d1, d2, d3, d4, d5] => { results := [.lit (.bool false)], args := [d1, d2, d3, d4, d5] }
  | _ => none }
def SatinMakesWrongFalsely : Prop := satinMakesRow.holds Try.pinned (OpenSpec.ofChange satinMakesWrong)

/-- 'raddlelaw09.SatinRuns': WHATEVER THE INPUT: true; the input reads as it did. -/
def satinRunsSpec : ChangeSpec := { name := "satinRuns", fn := fun _ => fun
  | [d] => { results := [.lit (.bool true)], args := [d] }
  | _ => none }
def satinRunsRow : OpenClaim := { program := "ytbgekiifffnalaa", sum := "6b285ad493a1095e129e959524f0aae88099c4739c1dda1053090a3386f71a8b", func := "raddle/raddlelaw09.SatinRuns", spec := "satinRuns", inPlace := ["internal/abi.NoEscape"], apart := false }
def SatinRunsSaid : Prop := satinRunsRow.holds Try.pinned (OpenSpec.ofChange satinRunsSpec)

/-- ITS FALSE NEIGHBOUR: 'it returns false'. Refute it at one input. -/
def satinRunsWrong : ChangeSpec := { name := "satinRuns", fn := fun _ => fun
  | [d] => { results := [.lit (.bool false)], args := [d] }
  | _ => none }
def SatinRunsWrongFalsely : Prop := satinRunsRow.holds Try.pinned (OpenSpec.ofChange satinRunsWrong)

/-- 'raddlelaw09.SatinTwill': WHATEVER THE INPUT: true; the input reads as it did. -/
def satinTwillSpec : ChangeSpec := { name := "satinTwill", fn := fun _ => fun
  | [d1, d2] => { results := [.lit (.bool true)], args := [d1, d2] }
  | _ => none }
def satinTwillRow : OpenClaim := { program := "ytbgekiifffnalaa", sum := "6b285ad493a1095e129e959524f0aae88099c4739c1dda1053090a3386f71a8b", func := "raddle/raddlelaw09.SatinTwill", spec := "satinTwill", inPlace := ["internal/abi.NoEscape"], apart := false }
def SatinTwillSaid : Prop := satinTwillRow.holds Try.pinned (OpenSpec.ofChange satinTwillSpec)

/-- ITS FALSE NEIGHBOUR: 'it returns false'. Refute it at one input. -/
def satinTwillWrong : ChangeSpec := { name := "satinTwill", fn := fun _ => fun
  | [d1, d2] => { results := [.lit (.bool false)], args := [d1, d2] }
  | _ => none }
def SatinTwillWrongFalsely : Prop := satinTwillRow.holds Try.pinned (OpenSpec.ofChange satinTwillWrong)

/-- 'raddlelaw09.SatinNone': WHATEVER THE INPUT: true; the input reads as it did. -/
def satinNoneSpec : ChangeSpec := { name := "satinNone", fn := fun _ => fun
  | [d] => { results := [.lit (.bool true)], args := [d] }
  | _ => none }
def satinNoneRow : OpenClaim := { program := "ytbgekiifffnalaa", sum := "6b285ad493a1095e129e959524f0aae88099c4739c1dda1053090a3386f71a8b", func := "raddle/raddlelaw09.SatinNone", spec := "satinNone", inPlace := ["internal/abi.NoEscape"], unfollowed := true, recurses := true, apart := false }
def SatinNoneSaid : Prop := satinNoneRow.holds Try.pinned (OpenSpec.ofChange satinNoneSpec)

/-- ITS FALSE NEIGHBOUR: 'it returns false'. Refute it at one input. -/
def satinNoneWrong : ChangeSpec := { name := "satinNone", fn := fun _ => fun
  | [d] => { results := [.lit (.bool false)], args := [d] }
  | _ => none }
def SatinNoneWrongFalsely : Prop := satinNoneRow.holds Try.pinned (OpenSpec.ofChange satinNoneWrong)

/-- 'raddlelaw09.SatinTurned': WHATEVER THE INPUT: true; the input reads as it did. -/
def satinTurnedSpec : ChangeSpec := { name := "satinTurned", fn := fun _ => fun
  | [d1, d2] => { results := [.lit (.bool true)], args := [d1, d2] }
  | _ => none }
def satinTurnedRow : OpenClaim := { program := "ytbgekiifffnalaa", sum := "6b285ad493a1095e129e959524f0aae88099c4739c1dda1053090a3386f71a8b", func := "raddle/raddlelaw09.SatinTurned", spec := "satinTurned", inPlace := ["internal/abi.NoEscape"], unfollowed := true, recurses := true, apart := false }
def SatinTurnedSaid : Prop := satinTurnedRow.holds Try.pinned (OpenSpec.ofChange satinTurnedSpec)

/-- ITS FALSE NEIGHBOUR: 'it returns false'. Refute it at one input. -/
def satinTurnedWrong : ChangeSpec := { name := "satinTurned", fn := fun _ => fun
  | [d1, d2] => { results := [.lit (.bool false)], args := [d1, d2] }
  | _ => none }
def SatinTurnedWrongFalsely : Prop := satinTurnedRow.holds Try.pinned (OpenSpec.ofChange satinTurnedWrong)

/-- 'raddlelaw09.SatinKnown': WHATEVER THE INPUT: true; the input reads as it did. -/
def satinKnownSpec : ChangeSpec := { name := "satinKnown", fn := fun _ => fun
  | [d1, d2, d3, d4, d5] => { results := [.lit (.bool true)], args := [d1, d2, d3, d4, d5] }
  | _ => none }
def satinKnownRow : OpenClaim := { program := "ytbgekiifffnalaa", sum := "6b285ad493a1095e129e959524f0aae88099c4739c1dda1053090a3386f71a8b", func := "raddle/raddlelaw09.SatinKnown", spec := "satinKnown", inPlace := ["internal/abi.NoEscape"], unfollowed := true, recurses := true, apart := false }
def SatinKnownSaid : Prop := satinKnownRow.holds Try.pinned (OpenSpec.ofChange satinKnownSpec)

/-- ITS FALSE NEIGHBOUR: 'it returns false'. Refute it at one input. -/
def satinKnownWrong : ChangeSpec := { name := "satinKnown", fn := fun _ => fun
  | [d1, d2, d3, d4, d5] => { results := [.lit (.bool false)], args := [d1, d2, d3, d4, d5] }
  | _ => none }
def SatinKnownWrongFalsely : Prop := satinKnownRow.holds Try.pinned (OpenSpec.ofChange satinKnownWrong)

/- THE SECOND FORM. 'bulk': how many values and letters a reading holds, each counted each time it is reached (what is shared counts as often as it is met; a slice's spare places count too). A statement '..UptoSaid' is the law's where the arguments, and the package variables that the reading takes, are together of bulk at most 1048576: NARROWER than '..Said'. Prove '..Said' where nothing that the law and all that it calls make is longer than what came in: it says more and counts as full. Else prove '..UptoSaid'. A law counts once. -/
mutual
def uptoBulk {H : Type} : DataW H → Nat
  | .lit (.string bytes) => bytes.length + 1
  | .lit _ => 1
  | .nil => 1
  | .ptr d => uptoBulk d + 1
  | .slice elems spare => uptoBulkAll elems + uptoBulkAll spare + 1
  | .agg parts => uptoBulkAll parts + 1
  | .iface _ d => uptoBulk d + 1
  | .map entries => uptoBulkEntries entries + 1
  | .held _ => 1
def uptoBulkAll {H : Type} : List (DataW H) → Nat
  | [] => 0
  | d :: r => uptoBulk d + uptoBulkAll r
def uptoBulkEntries {H : Type} : List (Lit × DataW H) → Nat
  | [] => 0
  | x :: r => uptoBulkEntry x + uptoBulkEntries r
def uptoBulkEntry {H : Type} : Lit × DataW H → Nat
  | (.string bytes, d) => bytes.length + uptoBulk d + 1
  | (_, d) => uptoBulk d + 1
 end
def uptoSmall : (H : Type) → List (DataW H) → Bool := fun _ ds => decide (uptoBulkAll ds ≤ 1048576)
def OpenSpec.upto (s : _root_.Go.ChangeSpec) : _root_.Go.OpenSpec := { _root_.Go.OpenSpec.ofChange s with cond := some uptoSmall }

/-- 'raddlelaw09.SatinAsks', WHERE WHAT IT READS IS OF BULK AT MOST 1048576: true; the input reads as it did. -/
def satinAsksUptoRow : OpenClaim := { program := "ytbgekiifffnalaa", sum := "6b285ad493a1095e129e959524f0aae88099c4739c1dda1053090a3386f71a8b", func := "raddle/raddlelaw09.SatinAsks", spec := "satinAsks", unfollowed := true, recurses := true, apart := false, narrowed := true }
def SatinAsksUptoSaid : Prop := satinAsksUptoRow.holds Try.pinned (OpenSpec.upto satinAsksSpec)

/-- 'raddlelaw09.SatinMakes', WHERE WHAT IT READS IS OF BULK AT MOST 1048576: true; the input reads as it did. -/
def satinMakesUptoRow : OpenClaim := { program := "ytbgekiifffnalaa", sum := "6b285ad493a1095e129e959524f0aae88099c4739c1dda1053090a3386f71a8b", func := "raddle/raddlelaw09.SatinMakes", spec := "satinMakes", apart := false, narrowed := true }
def SatinMakesUptoSaid : Prop := satinMakesUptoRow.holds Try.pinned (OpenSpec.upto satinMakesSpec)

/-- 'raddlelaw09.SatinRuns', WHERE WHAT IT READS IS OF BULK AT MOST 1048576: true; the input reads as it did. -/
def satinRunsUptoRow : OpenClaim := { program := "ytbgekiifffnalaa", sum := "6b285ad493a1095e129e959524f0aae88099c4739c1dda1053090a3386f71a8b", func := "raddle/raddlelaw09.SatinRuns", spec := "satinRuns", inPlace := ["internal/abi.NoEscape"], apart := false, narrowed := true }
def SatinRunsUptoSaid : Prop := satinRunsUptoRow.holds Try.pinned (OpenSpec.upto satinRunsSpec)

/-- 'raddlelaw09.SatinTwill', WHERE WHAT IT READS IS OF BULK AT MOST 1048576: true; the input reads as it did. -/
def satinTwillUptoRow : OpenClaim := { program := "ytbgekiifffnalaa", sum := "6b285ad493a1095e129e959524f0aae88099c4739c1dda1053090a3386f71a8b", func := "raddle/raddlelaw09.SatinTwill", spec := "satinTwill", inPlace := ["internal/abi.NoEscape"], apart := false, narrowed := true }
def SatinTwillUptoSaid : Prop := satinTwillUptoRow.holds Try.pinned (OpenSpec.upto satinTwillSpec)

/-- 'raddlelaw09.SatinNone', WHERE WHAT IT READS IS OF BULK AT MOST 1048576: true; the input reads as it did. -/
def satinNoneUptoRow : OpenClaim := { program := "ytbgekiifffnalaa", sum := "6b285ad493a1095e129e959524f0aae88099c4739c1dda1053090a3386f71a8b", func := "raddle/raddlelaw09.SatinNone", spec := "satinNone", inPlace := ["internal/abi.NoEscape"], unfollowed := true, recurses := true, apart := false, narrowed := true }
def SatinNoneUptoSaid : Prop := satinNoneUptoRow.holds Try.pinned (OpenSpec.upto satinNoneSpec)

/-- 'raddlelaw09.SatinTurned', WHERE WHAT IT READS IS OF BULK AT MOST 1048576: true; the input reads as it did. -/
def satinTurnedUptoRow : OpenClaim := { program := "ytbgekiifffnalaa", sum := "6b285ad493a1095e129e959524f0aae88099c4739c1dda1053090a3386f71a8b", func := "raddle/raddlelaw09.SatinTurned", spec := "satinTurned", inPlace := ["internal/abi.NoEscape"], unfollowed := true, recurses := true, apart := false, narrowed := true }
def SatinTurnedUptoSaid : Prop := satinTurnedUptoRow.holds Try.pinned (OpenSpec.upto satinTurnedSpec)

/-- 'raddlelaw09.SatinKnown', WHERE WHAT IT READS IS OF BULK AT MOST 1048576: true; the input reads as it did. -/
def satinKnownUptoRow : OpenClaim := { program := "ytbgekiifffnalaa", sum := "6b285ad493a1095e129e959524f0aae88099c4739c1dda1053090a3386f71a8b", func := "raddle/raddlelaw09.SatinKnown", spec := "satinKnown", inPlace := ["internal/abi.NoEscape"], unfollowed := true, recurses := true, apart := false, narrowed := true }
def SatinKnownUptoSaid : Prop := satinKnownUptoRow.holds Try.pinned (OpenSpec.upto satinKnownSpec)

end Rows
end Go.Proofs.Ytbgekiifffnalaa
