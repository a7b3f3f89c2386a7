/-
  No cell of these rows narrows 'for every input' (looked for: loops, veiled, ifaces, maps, wideKeys, modest, calm, conditions, laid).
  DERIVED. THE GIVEN ROWS OF THIS SEAT. 7 by the template 'for every input the law returns true; each argument reads behind the call as it read before'; 0 by the template 'total and deterministic' (their statements: YtefeghpglacghaaTotals.lean).
  GIVEN WITH THE SEED: the statements are not yours to turn. If you find one false, say at which input.
  Laid BY PROGRAM, IN A SANDBOX (cutbox-rows.mjs): the forced cells as the released guide's own fill.sh prints them over the translation ea3e2d5551ab3273… (all of the seat's roots in one cut). By AI agents, Wed Nov 11 2026. No macro, syntax, notation, axiom, sorry.
-/
import Derived.Test.YtefeghpglacghaaChecked
import GoSem.Claim
import GoSem.ClaimJoined
import GoSem.ClaimMapViews
import Derived.JoinedTies
import Derived.KernelRfl
namespace Go.Proofs.Ytefeghpglacghaa
/- THE CELL 'sum', in the pinned program and in every row, IS THE sha256 OF THE DUMP (.gsa) THAT YtefeghpglacghaaProg.lean LOADS. Nothing in Lean hashes anything: it is a label: what it is worth is what the hold of that sum in a sandbox is worth. -/
noncomputable def Try.pinned : Pinned := { name := "ytefeghpglacghaa", sum := "ea3e2d5551ab327304e874b4cf855f38c9be2a9a3b6d149591290b2ef48b44d2", checked := Try.checked }
namespace Rows
def none {H : Type} : Left H := { results := [], args := [] }

/-- 'raddlelaw15.PictureFinds': WHATEVER THE INPUT: true; the input reads as it did. -/
def pictureFindsSpec : ChangeSpec := { name := "pictureFinds", fn := fun _ => fun
  | [d] => { results := [.lit (.bool true)], args := [d] }
  | _ => none }
def pictureFindsRow : OpenClaim := { program := "ytefeghpglacghaa", sum := "ea3e2d5551ab327304e874b4cf855f38c9be2a9a3b6d149591290b2ef48b44d2", func := "raddle/raddlelaw15.PictureFinds", spec := "pictureFinds", unfollowed := true, recurses := true, apart := false }
def PictureFindsSaid : Prop := pictureFindsRow.holds Try.pinned (OpenSpec.ofChange pictureFindsSpec)

/-- ITS FALSE NEIGHBOUR: 'it returns false'. Refute it at one input. -/
def pictureFindsWrong : ChangeSpec := { name := "pictureFinds", fn := fun _ => fun
  | [d] => { results := [.lit (.bool false)], args := [d] }
  | _ => none }
def PictureFindsWrongFalsely : Prop := pictureFindsRow.holds Try.pinned (OpenSpec.ofChange pictureFindsWrong)

/-- 'raddlelaw15.PictureCells': WHATEVER THE INPUT: true; the input reads as it did. -/
def pictureCellsSpec : ChangeSpec := { name := "pictureCells", fn := fun _ => fun
  | [d1, d2, d3, d4] => { results := [.lit (.bool true)], args := [d1, d2, d3, d4] }
  | _ => none }
def pictureCellsRow : OpenClaim := { program := "ytefeghpglacghaa", sum := "ea3e2d5551ab327304e874b4cf855f38c9be2a9a3b6d149591290b2ef48b44d2", func := "raddle/raddlelaw15.PictureCells", spec := "pictureCells", unfollowed := true, recurses := true, apart := false }
def PictureCellsSaid : Prop := pictureCellsRow.holds Try.pinned (OpenSpec.ofChange pictureCellsSpec)

/-- ITS FALSE NEIGHBOUR: 'it returns false'. Refute it at one input. -/
def pictureCellsWrong : ChangeSpec := { name := "pictureCells", fn := fun _ => fun
  | [d1, d2, d3, d4] => { results := [.lit (.bool false)], args := [d1, d2, d3, d4] }
  | _ => none }
def PictureCellsWrongFalsely : Prop := pictureCellsRow.holds Try.pinned (OpenSpec.ofChange pictureCellsWrong)

/-- 'raddlelaw15.PictureChoices': WHATEVER THE INPUT: true; the input reads as it did. -/
def pictureChoicesSpec : ChangeSpec := { name := "pictureChoices", fn := fun _ => fun
  | [d1, d2, d3] => { results := [.lit (.bool true)], args := [d1, d2, d3] }
  | _ => none }
def pictureChoicesRow : OpenClaim := { program := "ytefeghpglacghaa", sum := "ea3e2d5551ab327304e874b4cf855f38c9be2a9a3b6d149591290b2ef48b44d2", func := "raddle/raddlelaw15.PictureChoices", spec := "pictureChoices", unfollowed := true, recurses := true, apart := false }
def PictureChoicesSaid : Prop := pictureChoicesRow.holds Try.pinned (OpenSpec.ofChange pictureChoicesSpec)

/-- ITS FALSE NEIGHBOUR: 'it returns false'. Refute it at one input. -/
def pictureChoicesWrong : ChangeSpec := { name := "pictureChoices", fn := fun _ => fun
  | [d1, d2, d3] => { results := [.lit (.bool false)], args := [d1, d2, d3] }
  | _ => none }
def PictureChoicesWrongFalsely : Prop := pictureChoicesRow.holds Try.pinned (OpenSpec.ofChange pictureChoicesWrong)

/-- 'raddlelaw15.PictureTurns': WHATEVER THE INPUT: true; the input reads as it did. -/
def pictureTurnsSpec : ChangeSpec := { name := "pictureTurns", fn := fun _ => fun
  | [d] => { results := [.lit (.bool true)], args := [d] }
  | _ => none }
def pictureTurnsRow : OpenClaim := { program := "ytefeghpglacghaa", sum := "ea3e2d5551ab327304e874b4cf855f38c9be2a9a3b6d149591290b2ef48b44d2", func := "raddle/raddlelaw15.PictureTurns", spec := "pictureTurns", unfollowed := true, recurses := true, apart := false }
def PictureTurnsSaid : Prop := pictureTurnsRow.holds Try.pinned (OpenSpec.ofChange pictureTurnsSpec)

/-- ITS FALSE NEIGHBOUR: 'it returns false'. Refute it at one input. -/
def pictureTurnsWrong : ChangeSpec := { name := "pictureTurns", fn := fun _ => fun
  | [d] => { results := [.lit (.bool false)], args := [d] }
  | _ => none }
def PictureTurnsWrongFalsely : Prop := pictureTurnsRow.holds Try.pinned (OpenSpec.ofChange pictureTurnsWrong)

/-- 'raddlelaw15.PictureOwn': WHATEVER THE INPUT: true; the input reads as it did. -/
def pictureOwnSpec : ChangeSpec := { name := "pictureOwn", fn := fun _ => fun
  | [d1, d2, d3] => { results := [.lit (.bool true)], args := [d1, d2, d3] }
  | _ => none }
def pictureOwnRow : OpenClaim := { program := "ytefeghpglacghaa", sum := "ea3e2d5551ab327304e874b4cf855f38c9be2a9a3b6d149591290b2ef48b44d2", func := "raddle/raddlelaw15.PictureOwn", spec := "pictureOwn", unfollowed := true, recurses := true, apart := false }
def PictureOwnSaid : Prop := pictureOwnRow.holds Try.pinned (OpenSpec.ofChange pictureOwnSpec)

/-- ITS FALSE NEIGHBOUR: 'it returns false'. Refute it at one input. -/
def pictureOwnWrong : ChangeSpec := { name := "pictureOwn", fn := fun _ => fun
  | [d1, d2, d3] => { results := [.lit (.bool false)], args := [d1, d2, d3] }
  | _ => none }
def PictureOwnWrongFalsely : Prop := pictureOwnRow.holds Try.pinned (OpenSpec.ofChange pictureOwnWrong)

/-- 'raddlelaw15.PictureExactly': WHATEVER THE INPUT: true; the input reads as it did. -/
def pictureExactlySpec : ChangeSpec := { name := "pictureExactly", fn := fun _ => fun
  | [d1, d2, d3, d4] => { results := [.lit (.bool true)], args := [d1, d2, d3, d4] }
  | _ => none }
def pictureExactlyRow : OpenClaim := { program := "ytefeghpglacghaa", sum := "ea3e2d5551ab327304e874b4cf855f38c9be2a9a3b6d149591290b2ef48b44d2", func := "raddle/raddlelaw15.PictureExactly", spec := "pictureExactly", unfollowed := true, recurses := true, apart := false }
def PictureExactlySaid : Prop := pictureExactlyRow.holds Try.pinned (OpenSpec.ofChange pictureExactlySpec)

/-- ITS FALSE NEIGHBOUR: 'it returns false'. Refute it at one input. -/
def pictureExactlyWrong : ChangeSpec := { name := "pictureExactly", fn := fun _ => fun
  | [d1, d2, d3, d4] => { results := [.lit (.bool false)], args := [d1, d2, d3, d4] }
  | _ => none }
def PictureExactlyWrongFalsely : Prop := pictureExactlyRow.holds Try.pinned (OpenSpec.ofChange pictureExactlyWrong)

/-- 'raddlelaw15.PictureNames': WHATEVER THE INPUT: true; the input reads as it did. -/
def pictureNamesSpec : ChangeSpec := { name := "pictureNames", fn := fun _ => fun
  | [] => { results := [.lit (.bool true)], args := [] }
  | _ => none }
def pictureNamesRow : OpenClaim := { program := "ytefeghpglacghaa", sum := "ea3e2d5551ab327304e874b4cf855f38c9be2a9a3b6d149591290b2ef48b44d2", func := "raddle/raddlelaw15.PictureNames", spec := "pictureNames", unfollowed := true, recurses := true, apart := false }
def PictureNamesSaid : Prop := pictureNamesRow.holds Try.pinned (OpenSpec.ofChange pictureNamesSpec)

/-- ITS FALSE NEIGHBOUR: 'it returns false'. Refute it at one input. -/
def pictureNamesWrong : ChangeSpec := { name := "pictureNames", fn := fun _ => fun
  | [] => { results := [.lit (.bool false)], args := [] }
  | _ => none }
def PictureNamesWrongFalsely : Prop := pictureNamesRow.holds Try.pinned (OpenSpec.ofChange pictureNamesWrong)

/- THE SECOND FORM. 'bulk': how many values and letters a reading holds, each counted each time it is reached (what is shared counts as often as it is met; a slice's spare places count too). A statement '..UptoSaid' is the law's where the arguments, and the package variables that the reading takes, are together of bulk at most 1048576: NARROWER than '..Said'. Prove '..Said' where nothing that the law and all that it calls make is longer than what came in: it says more and counts as full. Else prove '..UptoSaid'. A law counts once. -/
mutual
def uptoBulk {H : Type} : DataW H → Nat
  | .lit (.string bytes) => bytes.length + 1
  | .lit _ => 1
  | .nil => 1
  | .ptr d => uptoBulk d + 1
  | .slice elems spare => uptoBulkAll elems + uptoBulkAll spare + 1
  | .agg parts => uptoBulkAll parts + 1
  | .iface _ d => uptoBulk d + 1
  | .map entries => uptoBulkEntries entries + 1
  | .held _ => 1
def uptoBulkAll {H : Type} : List (DataW H) → Nat
  | [] => 0
  | d :: r => uptoBulk d + uptoBulkAll r
def uptoBulkEntries {H : Type} : List (Lit × DataW H) → Nat
  | [] => 0
  | x :: r => uptoBulkEntry x + uptoBulkEntries r
def uptoBulkEntry {H : Type} : Lit × DataW H → Nat
  | (.string bytes, d) => bytes.length + uptoBulk d + 1
  | (_, d) => uptoBulk d + 1
 end
def uptoSmall : (H : Type) → List (DataW H) → Bool := fun _ ds => decide (uptoBulkAll ds ≤ 1048576)
def OpenSpec.upto (s : _root_.Go.ChangeSpec) : _root_.Go.OpenSpec := { _root_.Go.OpenSpec.ofChange s with cond := some uptoSmall }

/-- 'raddlelaw15.PictureFinds', WHERE WHAT IT READS IS OF BULK AT MOST 1048576: true; the input reads as it did. -/
def pictureFindsUptoRow : OpenClaim := { program := "ytefeghpglacghaa", sum := "ea3e2d5551ab327304e874b4cf855f38c9be2a9a3b6d149591290b2ef48b44d2", func := "raddle/raddlelaw15.PictureFinds", spec := "pictureFinds", unfollowed := true, recurses := true, apart := false, narrowed := true }
def PictureFindsUptoSaid : Prop := pictureFindsUptoRow.holds Try.pinned (OpenSpec.upto pictureFindsSpec)

/-- 'raddlelaw15.PictureCells', WHERE WHAT IT READS IS OF BULK AT MOST 1048576: true; the input reads as it did. -/
def pictureCellsUptoRow : OpenClaim := { program := "ytefeghpglacghaa", sum := "ea3e2d5551ab327304e874b4cf855f38c9be2a9a3b6d149591290b2ef48b44d2", func := "raddle/raddlelaw15.PictureCells", spec := "pictureCells", unfollowed := true, recurses := true, apart := false, narrowed := true }
def PictureCellsUptoSaid : Prop := pictureCellsUptoRow.holds Try.pinned (OpenSpec.upto pictureCellsSpec)

/-- 'raddlelaw15.PictureChoices', WHERE WHAT IT READS IS OF BULK AT MOST 1048576: true; the input reads as it did. -/
def pictureChoicesUptoRow : OpenClaim := { program := "ytefeghpglacghaa", sum := "ea3e2d5551ab327304e874b4cf855f38c9be2a9a3b6d149591290b2ef48b44d2", func := "raddle/raddlelaw15.PictureChoices", spec := "pictureChoices", unfollowed := true, recurses := true, apart := false, narrowed := true }
def PictureChoicesUptoSaid : Prop := pictureChoicesUptoRow.holds Try.pinned (OpenSpec.upto pictureChoicesSpec)

/-- 'raddlelaw15.PictureTurns', WHERE WHAT IT READS IS OF BULK AT MOST 1048576: true; the input reads as it did. -/
def pictureTurnsUptoRow : OpenClaim := { program := "ytefeghpglacghaa", sum := "ea3e2d5551ab327304e874b4cf855f38c9be2a9a3b6d149591290b2ef48b44d2", func := "raddle/raddlelaw15.PictureTurns", spec := "pictureTurns", unfollowed := true, recurses := true, apart := false, narrowed := true }
def PictureTurnsUptoSaid : Prop := pictureTurnsUptoRow.holds Try.pinned (OpenSpec.upto pictureTurnsSpec)

/-- 'raddlelaw15.PictureOwn', WHERE WHAT IT READS IS OF BULK AT MOST 1048576: true; the input reads as it did. -/
def pictureOwnUptoRow : OpenClaim := { program := "ytefeghpglacghaa", sum := "ea3e2d5551ab327304e874b4cf855f38c9be2a9a3b6d149591290b2ef48b44d2", func := "raddle/raddlelaw15.PictureOwn", spec := "pictureOwn", unfollowed := true, recurses := true, apart := false, narrowed := true }
def PictureOwnUptoSaid : Prop := pictureOwnUptoRow.holds Try.pinned (OpenSpec.upto pictureOwnSpec)

/-- 'raddlelaw15.PictureExactly', WHERE WHAT IT READS IS OF BULK AT MOST 1048576: true; the input reads as it did. -/
def pictureExactlyUptoRow : OpenClaim := { program := "ytefeghpglacghaa", sum := "ea3e2d5551ab327304e874b4cf855f38c9be2a9a3b6d149591290b2ef48b44d2", func := "raddle/raddlelaw15.PictureExactly", spec := "pictureExactly", unfollowed := true, recurses := true, apart := false, narrowed := true }
def PictureExactlyUptoSaid : Prop := pictureExactlyUptoRow.holds Try.pinned (OpenSpec.upto pictureExactlySpec)

/-- 'raddlelaw15.PictureNames', WHERE WHAT IT READS IS OF BULK AT MOST 1048576: true; the input reads as it did. -/
def pictureNamesUptoRow : OpenClaim := { program := "ytefeghpglacghaa", sum := "ea3e2d5551ab327304e874b4cf855f38c9be2a9a3b6d149591290b2ef48b44d2", func := "raddle/raddlelaw15.PictureNames", spec := "pictureNames", unfollowed := true, recurses := true, apart := false, narrowed := true }
def PictureNamesUptoSaid : Prop := pictureNamesUptoRow.holds Try.pinned (OpenSpec.upto pictureNamesSpec)

end Rows
end Go.Proofs.Ytefeghpglacghaa
