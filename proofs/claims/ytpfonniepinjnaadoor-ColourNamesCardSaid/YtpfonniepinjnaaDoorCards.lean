/-
  DERIVED. GIVEN WITH THE SEED: THE CARDS: each row of YtpfonniepinjnaaDoorRows.lean that lists a variable, with what it lists TIED to the program's text (the seventh form; the later family's looks); each row that meets fmt, with fmt's text TOLD by the authors' own Lean function (tested against real Go, not proved from fmt's source: count such statements apart). THE CARD IS WHAT COUNTS. Prove the row's statement (the work); the ties are given (YtpfonniepinjnaaDoorTie.lean); close each card by the builder's one call (the guide's Derived/Test/ToyasCard.lean, 'card_holds'). Laid BY PROGRAM, IN A SANDBOX (cutbox-door.mjs). By AI agents, Wed Nov 11 2026. No macro, syntax, notation, axiom, sorry.
-/
import Derived.Test.YtpfonniepinjnaaDoorRows
import GoSem.ClaimSeven
namespace Go.Proofs.YtpfonniepinjnaaDoor
namespace Rows

/-- THE TIED CARD OF 'raddlelaw14.ColourReads'. -/
def colourReadsCard : Claim7 := { stood := { row := colourReadsRow, standIns := [], harness := (true, "bfa0c46f4b10382b3027de3e506c2e60ea7fe3ac9c6411bc4163afd136312990"), looks := false }, kinds := [], alts := [], laidByText := true, laidKinds := [.data, .pinned], laidTests := true, laidLooks := .later }
def ColourReadsCardSaid : Prop := Claim7.holds Tryd.pinned (.plain (OpenSpec.ofChange colourReadsSpec)) colourReadsCard

/-- THE TIED CARD OF 'raddlelaw14.ColourBack'. -/
def colourBackCard : Claim7 := { stood := { row := colourBackRow, standIns := [], harness := (true, "bfa0c46f4b10382b3027de3e506c2e60ea7fe3ac9c6411bc4163afd136312990"), looks := false }, kinds := [], alts := [], laidByText := true, laidKinds := [.data, .pinned], laidTests := true, laidLooks := .later }
def ColourBackCardSaid : Prop := Claim7.holds Tryd.pinned (.plain (OpenSpec.ofChange colourBackSpec)) colourBackCard

/-- THE TIED CARD OF 'raddlelaw14.ColourNames'. -/
def colourNamesCard : Claim7 := { stood := { row := colourNamesRow, standIns := [], harness := (true, "bfa0c46f4b10382b3027de3e506c2e60ea7fe3ac9c6411bc4163afd136312990"), looks := false }, kinds := [], alts := [], laidByText := true, laidKinds := [.data, .pinned], laidTests := true, laidLooks := .later }
def ColourNamesCardSaid : Prop := Claim7.holds Tryd.pinned (.plain (OpenSpec.ofChange colourNamesSpec)) colourNamesCard

/-- THE SECOND FORM's CARD OF 'raddlelaw14.ColourReads'. -/
def colourReadsUptoCard : Claim7 := { stood := { row := colourReadsUptoRow, standIns := [], harness := (true, "bfa0c46f4b10382b3027de3e506c2e60ea7fe3ac9c6411bc4163afd136312990"), looks := false }, kinds := [], alts := [], laidByText := true, laidKinds := [.data, .pinned], laidTests := true, laidLooks := .later }
def ColourReadsUptoCardSaid : Prop := Claim7.holds Tryd.pinned (.plain (OpenSpec.upto colourReadsSpec)) colourReadsUptoCard

/-- THE SECOND FORM's CARD OF 'raddlelaw14.ColourBack'. -/
def colourBackUptoCard : Claim7 := { stood := { row := colourBackUptoRow, standIns := [], harness := (true, "bfa0c46f4b10382b3027de3e506c2e60ea7fe3ac9c6411bc4163afd136312990"), looks := false }, kinds := [], alts := [], laidByText := true, laidKinds := [.data, .pinned], laidTests := true, laidLooks := .later }
def ColourBackUptoCardSaid : Prop := Claim7.holds Tryd.pinned (.plain (OpenSpec.upto colourBackSpec)) colourBackUptoCard

/-- THE SECOND FORM's CARD OF 'raddlelaw14.ColourNames'. -/
def colourNamesUptoCard : Claim7 := { stood := { row := colourNamesUptoRow, standIns := [], harness := (true, "bfa0c46f4b10382b3027de3e506c2e60ea7fe3ac9c6411bc4163afd136312990"), looks := false }, kinds := [], alts := [], laidByText := true, laidKinds := [.data, .pinned], laidTests := true, laidLooks := .later }
def ColourNamesUptoCardSaid : Prop := Claim7.holds Tryd.pinned (.plain (OpenSpec.upto colourNamesSpec)) colourNamesUptoCard
end Rows
end Go.Proofs.YtpfonniepinjnaaDoor
