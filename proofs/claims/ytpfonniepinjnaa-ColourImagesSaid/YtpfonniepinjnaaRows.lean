/-
  No cell of these rows narrows 'for every input' (looked for: loops, veiled, ifaces, maps, wideKeys, modest, calm, conditions, laid).
  DERIVED. THE GIVEN ROWS OF THIS SEAT. 5 by the template 'for every input the law returns true; each argument reads behind the call as it read before'; 0 by the template 'total and deterministic' (their statements: YtpfonniepinjnaaTotals.lean).
  GIVEN WITH THE SEED: the statements are not yours to turn. If you find one false, say at which input.
  Laid BY PROGRAM, IN A SANDBOX (cutbox-rows.mjs): the forced cells as the released guide's own fill.sh prints them over the translation a57d66521d1238f8… (all of the seat's roots in one cut). By AI agents, Wed Nov 11 2026. No macro, syntax, notation, axiom, sorry.
-/
import Derived.Test.YtpfonniepinjnaaChecked
import GoSem.Claim
import GoSem.ClaimJoined
import GoSem.ClaimMapViews
import Derived.JoinedTies
import Derived.KernelRfl
namespace Go.Proofs.Ytpfonniepinjnaa
/- THE CELL 'sum', in the pinned program and in every row, IS THE sha256 OF THE DUMP (.gsa) THAT YtpfonniepinjnaaProg.lean LOADS. Nothing in Lean hashes anything: it is a label: what it is worth is what the hold of that sum in a sandbox is worth. -/
noncomputable def Try.pinned : Pinned := { name := "ytpfonniepinjnaa", sum := "a57d66521d1238f80ef18513b825887d68e47b0960e2a91c94a98325fe32c74a", checked := Try.checked }
namespace Rows
def none {H : Type} : Left H := { results := [], args := [] }

/-- 'raddlelaw14.ColourTop': WHATEVER THE INPUT: true; the input reads as it did. -/
def colourTopSpec : ChangeSpec := { name := "colourTop", fn := fun _ => fun
  | [d1, d2, d3] => { results := [.lit (.bool true)], args := [d1, d2, d3] }
  | _ => none }
def colourTopRow : OpenClaim := { program := "ytpfonniepinjnaa", sum := "a57d66521d1238f80ef18513b825887d68e47b0960e2a91c94a98325fe32c74a", func := "raddle/raddlelaw14.ColourTop", spec := "colourTop", unfollowed := true, recurses := true, apart := false }
def ColourTopSaid : Prop := colourTopRow.holds Try.pinned (OpenSpec.ofChange colourTopSpec)

/-- ITS FALSE NEIGHBOUR: 'it returns false'. Refute it at one input. -/
def colourTopWrong : ChangeSpec := { name := "colourTop", fn := fun _ => fun
  | [d1, d2, d3] => { results := [.lit (.bool false)], args := [d1, d2, d3] }
  | _ => none }
def ColourTopWrongFalsely : Prop := colourTopRow.holds Try.pinned (OpenSpec.ofChange colourTopWrong)

/-- 'raddlelaw14.ColourFree': WHATEVER THE INPUT: true; the input reads as it did. -/
def colourFreeSpec : ChangeSpec := { name := "colourFree", fn := fun _ => fun
  | [d1, d2, d3, d4, d5] => { results := [.lit (.bool true)], args := [d1, d2, d3, d4, d5] }
  | _ => none }
def colourFreeRow : OpenClaim := { program := "ytpfonniepinjnaa", sum := "a57d66521d1238f80ef18513b825887d68e47b0960e2a91c94a98325fe32c74a", func := "raddle/raddlelaw14.ColourFree", spec := "colourFree", unfollowed := true, recurses := true, apart := false }
def ColourFreeSaid : Prop := colourFreeRow.holds Try.pinned (OpenSpec.ofChange colourFreeSpec)

/-- ITS FALSE NEIGHBOUR: 'it returns false'. Refute it at one input. -/
def colourFreeWrong : ChangeSpec := { name := "colourFree", fn := fun _ => fun
  | [d1, d2, d3, d4, d5] => { results := [.lit (.bool false)], args := [d1, d2, d3, d4, d5] }
  | _ => none }
def ColourFreeWrongFalsely : Prop := colourFreeRow.holds Try.pinned (OpenSpec.ofChange colourFreeWrong)

/-- 'raddlelaw14.ColourShows': WHATEVER THE INPUT: true; the input reads as it did. -/
def colourShowsSpec : ChangeSpec := { name := "colourShows", fn := fun _ => fun
  | [d1, d2, d3] => { results := [.lit (.bool true)], args := [d1, d2, d3] }
  | _ => none }
def colourShowsRow : OpenClaim := { program := "ytpfonniepinjnaa", sum := "a57d66521d1238f80ef18513b825887d68e47b0960e2a91c94a98325fe32c74a", func := "raddle/raddlelaw14.ColourShows", spec := "colourShows", unfollowed := true, recurses := true, apart := false }
def ColourShowsSaid : Prop := colourShowsRow.holds Try.pinned (OpenSpec.ofChange colourShowsSpec)

/-- ITS FALSE NEIGHBOUR: 'it returns false'. Refute it at one input. -/
def colourShowsWrong : ChangeSpec := { name := "colourShows", fn := fun _ => fun
  | [d1, d2, d3] => { results := [.lit (.bool false)], args := [d1, d2, d3] }
  | _ => none }
def ColourShowsWrongFalsely : Prop := colourShowsRow.holds Try.pinned (OpenSpec.ofChange colourShowsWrong)

/-- 'raddlelaw14.ColourTurns': WHATEVER THE INPUT: true; the input reads as it did. -/
def colourTurnsSpec : ChangeSpec := { name := "colourTurns", fn := fun _ => fun
  | [d1, d2, d3] => { results := [.lit (.bool true)], args := [d1, d2, d3] }
  | _ => none }
def colourTurnsRow : OpenClaim := { program := "ytpfonniepinjnaa", sum := "a57d66521d1238f80ef18513b825887d68e47b0960e2a91c94a98325fe32c74a", func := "raddle/raddlelaw14.ColourTurns", spec := "colourTurns", unfollowed := true, recurses := true, apart := false }
def ColourTurnsSaid : Prop := colourTurnsRow.holds Try.pinned (OpenSpec.ofChange colourTurnsSpec)

/-- ITS FALSE NEIGHBOUR: 'it returns false'. Refute it at one input. -/
def colourTurnsWrong : ChangeSpec := { name := "colourTurns", fn := fun _ => fun
  | [d1, d2, d3] => { results := [.lit (.bool false)], args := [d1, d2, d3] }
  | _ => none }
def ColourTurnsWrongFalsely : Prop := colourTurnsRow.holds Try.pinned (OpenSpec.ofChange colourTurnsWrong)

/-- 'raddlelaw14.ColourImages': WHATEVER THE INPUT: true; the input reads as it did. -/
def colourImagesSpec : ChangeSpec := { name := "colourImages", fn := fun _ => fun
  | [d1, d2] => { results := [.lit (.bool true)], args := [d1, d2] }
  | _ => none }
def colourImagesRow : OpenClaim := { program := "ytpfonniepinjnaa", sum := "a57d66521d1238f80ef18513b825887d68e47b0960e2a91c94a98325fe32c74a", func := "raddle/raddlelaw14.ColourImages", spec := "colourImages", inPlace := ["internal/abi.NoEscape"], unfollowed := true, recurses := true, apart := false }
def ColourImagesSaid : Prop := colourImagesRow.holds Try.pinned (OpenSpec.ofChange colourImagesSpec)

/-- ITS FALSE NEIGHBOUR: 'it returns false'. Refute it at one input. -/
def colourImagesWrong : ChangeSpec := { name := "colourImages", fn := fun _ => fun
  | [d1, d2] => { results := [.lit (.bool false)], args := [d1, d2] }
  | _ => none }
def ColourImagesWrongFalsely : Prop := colourImagesRow.holds Try.pinned (OpenSpec.ofChange colourImagesWrong)

/- THE SECOND FORM. 'bulk': how many values and letters a reading holds, each counted each time it is reached (what is shared counts as often as it is met; a slice's spare places count too). A statement '..UptoSaid' is the law's where the arguments, and the package variables that the reading takes, are together of bulk at most 1048576: NARROWER than '..Said'. Prove '..Said' where nothing that the law and all that it calls make is longer than what came in: it says more and counts as full. Else prove '..UptoSaid'. A law counts once. -/
mutual
def uptoBulk {H : Type} : DataW H → Nat
  | .lit (.string bytes) => bytes.length + 1
  | .lit _ => 1
  | .nil => 1
  | .ptr d => uptoBulk d + 1
  | .slice elems spare => uptoBulkAll elems + uptoBulkAll spare + 1
  | .agg parts => uptoBulkAll parts + 1
  | .iface _ d => uptoBulk d + 1
  | .map entries => uptoBulkEntries entries + 1
  | .held _ => 1
def uptoBulkAll {H : Type} : List (DataW H) → Nat
  | [] => 0
  | d :: r => uptoBulk d + uptoBulkAll r
def uptoBulkEntries {H : Type} : List (Lit × DataW H) → Nat
  | [] => 0
  | x :: r => uptoBulkEntry x + uptoBulkEntries r
def uptoBulkEntry {H : Type} : Lit × DataW H → Nat
  | (.string bytes, d) => bytes.length + uptoBulk d + 1
  | (_, d) => uptoBulk d + 1
 end
def uptoSmall : (H : Type) → List (DataW H) → Bool := fun _ ds => decide (uptoBulkAll ds ≤ 1048576)
def OpenSpec.upto (s : _root_.Go.ChangeSpec) : _root_.Go.OpenSpec := { _root_.Go.OpenSpec.ofChange s with cond := some uptoSmall }

/-- 'raddlelaw14.ColourTop', WHERE WHAT IT READS IS OF BULK AT MOST 1048576: true; the input reads as it did. -/
def colourTopUptoRow : OpenClaim := { program := "ytpfonniepinjnaa", sum := "a57d66521d1238f80ef18513b825887d68e47b0960e2a91c94a98325fe32c74a", func := "raddle/raddlelaw14.ColourTop", spec := "colourTop", unfollowed := true, recurses := true, apart := false, narrowed := true }
def ColourTopUptoSaid : Prop := colourTopUptoRow.holds Try.pinned (OpenSpec.upto colourTopSpec)

/-- 'raddlelaw14.ColourFree', WHERE WHAT IT READS IS OF BULK AT MOST 1048576: true; the input reads as it did. -/
def colourFreeUptoRow : OpenClaim := { program := "ytpfonniepinjnaa", sum := "a57d66521d1238f80ef18513b825887d68e47b0960e2a91c94a98325fe32c74a", func := "raddle/raddlelaw14.ColourFree", spec := "colourFree", unfollowed := true, recurses := true, apart := false, narrowed := true }
def ColourFreeUptoSaid : Prop := colourFreeUptoRow.holds Try.pinned (OpenSpec.upto colourFreeSpec)

/-- 'raddlelaw14.ColourShows', WHERE WHAT IT READS IS OF BULK AT MOST 1048576: true; the input reads as it did. -/
def colourShowsUptoRow : OpenClaim := { program := "ytpfonniepinjnaa", sum := "a57d66521d1238f80ef18513b825887d68e47b0960e2a91c94a98325fe32c74a", func := "raddle/raddlelaw14.ColourShows", spec := "colourShows", unfollowed := true, recurses := true, apart := false, narrowed := true }
def ColourShowsUptoSaid : Prop := colourShowsUptoRow.holds Try.pinned (OpenSpec.upto colourShowsSpec)

/-- 'raddlelaw14.ColourTurns', WHERE WHAT IT READS IS OF BULK AT MOST 1048576: true; the input reads as it did. -/
def colourTurnsUptoRow : OpenClaim := { program := "ytpfonniepinjnaa", sum := "a57d66521d1238f80ef18513b825887d68e47b0960e2a91c94a98325fe32c74a", func := "raddle/raddlelaw14.ColourTurns", spec := "colourTurns", unfollowed := true, recurses := true, apart := false, narrowed := true }
def ColourTurnsUptoSaid : Prop := colourTurnsUptoRow.holds Try.pinned (OpenSpec.upto colourTurnsSpec)

/-- 'raddlelaw14.ColourImages', WHERE WHAT IT READS IS OF BULK AT MOST 1048576: true; the input reads as it did. -/
def colourImagesUptoRow : OpenClaim := { program := "ytpfonniepinjnaa", sum := "a57d66521d1238f80ef18513b825887d68e47b0960e2a91c94a98325fe32c74a", func := "raddle/raddlelaw14.ColourImages", spec := "colourImages", inPlace := ["internal/abi.NoEscape"], unfollowed := true, recurses := true, apart := false, narrowed := true }
def ColourImagesUptoSaid : Prop := colourImagesUptoRow.holds Try.pinned (OpenSpec.upto colourImagesSpec)

end Rows
end Go.Proofs.Ytpfonniepinjnaa
