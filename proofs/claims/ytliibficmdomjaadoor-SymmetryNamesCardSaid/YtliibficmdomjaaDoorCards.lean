/-
  DERIVED. GIVEN WITH THE SEED: THE CARDS: each row of YtliibficmdomjaaDoorRows.lean that lists a variable, with what it lists TIED to the program's text (the seventh form; the later family's looks); each row that meets fmt, with fmt's text TOLD by the authors' own Lean function (tested against real Go, not proved from fmt's source: count such statements apart). THE CARD IS WHAT COUNTS. Prove the row's statement (the work); the ties are given (YtliibficmdomjaaDoorTie.lean); close each card by the builder's one call (the guide's Derived/Test/ToyasCard.lean, 'card_holds'). Laid BY PROGRAM, IN A SANDBOX (cutbox-door.mjs). By AI agents, Wed Nov 11 2026. No macro, syntax, notation, axiom, sorry.
-/
import Derived.Test.YtliibficmdomjaaDoorRows
import GoSem.ClaimSeven
namespace Go.Proofs.YtliibficmdomjaaDoor
namespace Rows

/-- THE TIED CARD OF 'raddlelaw07.SymmetryCompose'. -/
def symmetryComposeCard : Claim7 := { stood := { row := symmetryComposeRow, standIns := [], harness := (true, "bd37858ff3876fffd957e063a2eb96efadae5119a36a4e1ccadce4823d406d8f"), looks := false }, kinds := [], alts := [], laidByText := true, laidKinds := [.data, .pinned], laidTests := true, laidLooks := .later }
def SymmetryComposeCardSaid : Prop := Claim7.holds Tryd.pinned (.plain (OpenSpec.ofChange symmetryComposeSpec)) symmetryComposeCard

/-- THE TIED CARD OF 'raddlelaw07.SymmetryAlike'. -/
def symmetryAlikeCard : Claim7 := { stood := { row := symmetryAlikeRow, standIns := [], harness := (true, "bd37858ff3876fffd957e063a2eb96efadae5119a36a4e1ccadce4823d406d8f"), looks := false }, kinds := [], alts := [], laidByText := true, laidKinds := [.data, .pinned], laidTests := true, laidLooks := .later }
def SymmetryAlikeCardSaid : Prop := Claim7.holds Tryd.pinned (.plain (OpenSpec.ofChange symmetryAlikeSpec)) symmetryAlikeCard

/-- THE TIED CARD OF 'raddlelaw07.SymmetryGroup'. -/
def symmetryGroupCard : Claim7 := { stood := { row := symmetryGroupRow, standIns := [], harness := (true, "bd37858ff3876fffd957e063a2eb96efadae5119a36a4e1ccadce4823d406d8f"), looks := false }, kinds := [], alts := [], laidByText := true, laidKinds := [.data, .pinned], laidTests := true, laidLooks := .later }
def SymmetryGroupCardSaid : Prop := Claim7.holds Tryd.pinned (.plain (OpenSpec.ofChange symmetryGroupSpec)) symmetryGroupCard

/-- THE TIED CARD OF 'raddlelaw07.SymmetryLeast'. -/
def symmetryLeastCard : Claim7 := { stood := { row := symmetryLeastRow, standIns := [], harness := (true, "bd37858ff3876fffd957e063a2eb96efadae5119a36a4e1ccadce4823d406d8f"), looks := false }, kinds := [], alts := [], laidByText := true, laidKinds := [.data, .pinned], laidTests := true, laidLooks := .later }
def SymmetryLeastCardSaid : Prop := Claim7.holds Tryd.pinned (.plain (OpenSpec.ofChange symmetryLeastSpec)) symmetryLeastCard

/-- THE TIED CARD OF 'raddlelaw07.SymmetryNames'. -/
def symmetryNamesCard : Claim7 := { stood := { row := symmetryNamesRow, standIns := [], harness := (true, "bd37858ff3876fffd957e063a2eb96efadae5119a36a4e1ccadce4823d406d8f"), looks := false }, kinds := [], alts := [], laidByText := true, laidKinds := [.data, .pinned], laidTests := true, laidLooks := .later }
def SymmetryNamesCardSaid : Prop := Claim7.holds Tryd.pinned (.plain (OpenSpec.ofChange symmetryNamesSpec)) symmetryNamesCard

/-- THE SECOND FORM's CARD OF 'raddlelaw07.SymmetryCompose'. -/
def symmetryComposeUptoCard : Claim7 := { stood := { row := symmetryComposeUptoRow, standIns := [], harness := (true, "bd37858ff3876fffd957e063a2eb96efadae5119a36a4e1ccadce4823d406d8f"), looks := false }, kinds := [], alts := [], laidByText := true, laidKinds := [.data, .pinned], laidTests := true, laidLooks := .later }
def SymmetryComposeUptoCardSaid : Prop := Claim7.holds Tryd.pinned (.plain (OpenSpec.upto symmetryComposeSpec)) symmetryComposeUptoCard

/-- THE SECOND FORM's CARD OF 'raddlelaw07.SymmetryAlike'. -/
def symmetryAlikeUptoCard : Claim7 := { stood := { row := symmetryAlikeUptoRow, standIns := [], harness := (true, "bd37858ff3876fffd957e063a2eb96efadae5119a36a4e1ccadce4823d406d8f"), looks := false }, kinds := [], alts := [], laidByText := true, laidKinds := [.data, .pinned], laidTests := true, laidLooks := .later }
def SymmetryAlikeUptoCardSaid : Prop := Claim7.holds Tryd.pinned (.plain (OpenSpec.upto symmetryAlikeSpec)) symmetryAlikeUptoCard

/-- THE SECOND FORM's CARD OF 'raddlelaw07.SymmetryGroup'. -/
def symmetryGroupUptoCard : Claim7 := { stood := { row := symmetryGroupUptoRow, standIns := [], harness := (true, "bd37858ff3876fffd957e063a2eb96efadae5119a36a4e1ccadce4823d406d8f"), looks := false }, kinds := [], alts := [], laidByText := true, laidKinds := [.data, .pinned], laidTests := true, laidLooks := .later }
def SymmetryGroupUptoCardSaid : Prop := Claim7.holds Tryd.pinned (.plain (OpenSpec.upto symmetryGroupSpec)) symmetryGroupUptoCard

/-- THE SECOND FORM's CARD OF 'raddlelaw07.SymmetryLeast'. -/
def symmetryLeastUptoCard : Claim7 := { stood := { row := symmetryLeastUptoRow, standIns := [], harness := (true, "bd37858ff3876fffd957e063a2eb96efadae5119a36a4e1ccadce4823d406d8f"), looks := false }, kinds := [], alts := [], laidByText := true, laidKinds := [.data, .pinned], laidTests := true, laidLooks := .later }
def SymmetryLeastUptoCardSaid : Prop := Claim7.holds Tryd.pinned (.plain (OpenSpec.upto symmetryLeastSpec)) symmetryLeastUptoCard

/-- THE SECOND FORM's CARD OF 'raddlelaw07.SymmetryNames'. -/
def symmetryNamesUptoCard : Claim7 := { stood := { row := symmetryNamesUptoRow, standIns := [], harness := (true, "bd37858ff3876fffd957e063a2eb96efadae5119a36a4e1ccadce4823d406d8f"), looks := false }, kinds := [], alts := [], laidByText := true, laidKinds := [.data, .pinned], laidTests := true, laidLooks := .later }
def SymmetryNamesUptoCardSaid : Prop := Claim7.holds Tryd.pinned (.plain (OpenSpec.upto symmetryNamesSpec)) symmetryNamesUptoCard
end Rows
end Go.Proofs.YtliibficmdomjaaDoor
