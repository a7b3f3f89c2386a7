/-
  DERIVED. GIVEN WITH THE SEED: THE CARDS: each row of YtkhochbkjhpfgaaDoorRows.lean that lists a variable, with what it lists TIED to the program's text (the seventh form; the later family's looks); each row that meets fmt, with fmt's text TOLD by the authors' own Lean function (tested against real Go, not proved from fmt's source: count such statements apart). THE CARD IS WHAT COUNTS. Prove the row's statement (the work); the ties are given (YtkhochbkjhpfgaaDoorTie.lean); close each card by the builder's one call (the guide's Derived/Test/ToyasCard.lean, 'card_holds'). Laid BY PROGRAM, IN A SANDBOX (cutbox-door.mjs). By AI agents, Wed Nov 11 2026. No macro, syntax, notation, axiom, sorry.
-/
import Derived.Test.YtkhochbkjhpfgaaDoorRows
import GoSem.ClaimSeven
namespace Go.Proofs.YtkhochbkjhpfgaaDoor
namespace Rows

/-- THE TIED CARD OF 'raddlelaw06.RepeatSteps'. -/
def repeatStepsCard : Claim7 := { stood := { row := repeatStepsRow, standIns := [], harness := (true, "6e5bb9e503933d6140a0b7f4130deb832e1d48d0097e4cb4b54d965b77228106"), looks := false }, kinds := [], alts := [], laidByText := true, laidKinds := [.data, .pinned], laidTests := true, laidLooks := .later }
def RepeatStepsCardSaid : Prop := Claim7.holds Tryd.pinned (.plain (OpenSpec.ofChange repeatStepsSpec)) repeatStepsCard

/-- THE TIED CARD OF 'raddlelaw06.RepeatExactly'. -/
def repeatExactlyCard : Claim7 := { stood := { row := repeatExactlyRow, standIns := [], harness := (true, "6e5bb9e503933d6140a0b7f4130deb832e1d48d0097e4cb4b54d965b77228106"), looks := false }, kinds := [], alts := [], laidByText := true, laidKinds := [.data, .pinned], laidTests := true, laidLooks := .later }
def RepeatExactlyCardSaid : Prop := Claim7.holds Tryd.pinned (.plain (OpenSpec.ofChange repeatExactlySpec)) repeatExactlyCard

/-- THE TIED CARD OF 'raddlelaw06.RepeatSpread'. -/
def repeatSpreadCard : Claim7 := { stood := { row := repeatSpreadRow, standIns := [], harness := (true, "6e5bb9e503933d6140a0b7f4130deb832e1d48d0097e4cb4b54d965b77228106"), looks := false }, kinds := [], alts := [], laidByText := true, laidKinds := [.data, .pinned], laidTests := true, laidLooks := .later }
def RepeatSpreadCardSaid : Prop := Claim7.holds Tryd.pinned (.plain (OpenSpec.ofChange repeatSpreadSpec)) repeatSpreadCard

/-- THE TIED CARD OF 'raddlelaw06.RepeatMoved'. -/
def repeatMovedCard : Claim7 := { stood := { row := repeatMovedRow, standIns := [], harness := (true, "6e5bb9e503933d6140a0b7f4130deb832e1d48d0097e4cb4b54d965b77228106"), looks := false }, kinds := [], alts := [], laidByText := true, laidKinds := [.data, .pinned], laidTests := true, laidLooks := .later }
def RepeatMovedCardSaid : Prop := Claim7.holds Tryd.pinned (.plain (OpenSpec.ofChange repeatMovedSpec)) repeatMovedCard

/-- THE TIED CARD OF 'raddlelaw06.RepeatNames'. -/
def repeatNamesCard : Claim7 := { stood := { row := repeatNamesRow, standIns := [], harness := (true, "6e5bb9e503933d6140a0b7f4130deb832e1d48d0097e4cb4b54d965b77228106"), looks := false }, kinds := [], alts := [], laidByText := true, laidKinds := [.data, .pinned], laidTests := true, laidLooks := .later }
def RepeatNamesCardSaid : Prop := Claim7.holds Tryd.pinned (.plain (OpenSpec.ofChange repeatNamesSpec)) repeatNamesCard

/-- THE SECOND FORM's CARD OF 'raddlelaw06.RepeatSteps'. -/
def repeatStepsUptoCard : Claim7 := { stood := { row := repeatStepsUptoRow, standIns := [], harness := (true, "6e5bb9e503933d6140a0b7f4130deb832e1d48d0097e4cb4b54d965b77228106"), looks := false }, kinds := [], alts := [], laidByText := true, laidKinds := [.data, .pinned], laidTests := true, laidLooks := .later }
def RepeatStepsUptoCardSaid : Prop := Claim7.holds Tryd.pinned (.plain (OpenSpec.upto repeatStepsSpec)) repeatStepsUptoCard

/-- THE SECOND FORM's CARD OF 'raddlelaw06.RepeatExactly'. -/
def repeatExactlyUptoCard : Claim7 := { stood := { row := repeatExactlyUptoRow, standIns := [], harness := (true, "6e5bb9e503933d6140a0b7f4130deb832e1d48d0097e4cb4b54d965b77228106"), looks := false }, kinds := [], alts := [], laidByText := true, laidKinds := [.data, .pinned], laidTests := true, laidLooks := .later }
def RepeatExactlyUptoCardSaid : Prop := Claim7.holds Tryd.pinned (.plain (OpenSpec.upto repeatExactlySpec)) repeatExactlyUptoCard

/-- THE SECOND FORM's CARD OF 'raddlelaw06.RepeatSpread'. -/
def repeatSpreadUptoCard : Claim7 := { stood := { row := repeatSpreadUptoRow, standIns := [], harness := (true, "6e5bb9e503933d6140a0b7f4130deb832e1d48d0097e4cb4b54d965b77228106"), looks := false }, kinds := [], alts := [], laidByText := true, laidKinds := [.data, .pinned], laidTests := true, laidLooks := .later }
def RepeatSpreadUptoCardSaid : Prop := Claim7.holds Tryd.pinned (.plain (OpenSpec.upto repeatSpreadSpec)) repeatSpreadUptoCard

/-- THE SECOND FORM's CARD OF 'raddlelaw06.RepeatMoved'. -/
def repeatMovedUptoCard : Claim7 := { stood := { row := repeatMovedUptoRow, standIns := [], harness := (true, "6e5bb9e503933d6140a0b7f4130deb832e1d48d0097e4cb4b54d965b77228106"), looks := false }, kinds := [], alts := [], laidByText := true, laidKinds := [.data, .pinned], laidTests := true, laidLooks := .later }
def RepeatMovedUptoCardSaid : Prop := Claim7.holds Tryd.pinned (.plain (OpenSpec.upto repeatMovedSpec)) repeatMovedUptoCard

/-- THE SECOND FORM's CARD OF 'raddlelaw06.RepeatNames'. -/
def repeatNamesUptoCard : Claim7 := { stood := { row := repeatNamesUptoRow, standIns := [], harness := (true, "6e5bb9e503933d6140a0b7f4130deb832e1d48d0097e4cb4b54d965b77228106"), looks := false }, kinds := [], alts := [], laidByText := true, laidKinds := [.data, .pinned], laidTests := true, laidLooks := .later }
def RepeatNamesUptoCardSaid : Prop := Claim7.holds Tryd.pinned (.plain (OpenSpec.upto repeatNamesSpec)) repeatNamesUptoCard
end Rows
end Go.Proofs.YtkhochbkjhpfgaaDoor
