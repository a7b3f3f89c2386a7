/-
  DERIVED. GIVEN WITH THE SEED: THE CARDS: each row of YtebbcpeldncekaaDoorRows.lean that lists a variable, with what it lists TIED to the program's text (the seventh form; the later family's looks); each row that meets fmt, with fmt's text TOLD by the authors' own Lean function (tested against real Go, not proved from fmt's source: count such statements apart). THE CARD IS WHAT COUNTS. Prove the row's statement (the work); the ties are given (YtebbcpeldncekaaDoorTie.lean); close each card by the builder's one call (the guide's Derived/Test/ToyasCard.lean, 'card_holds'). Laid BY PROGRAM, IN A SANDBOX (cutbox-door.mjs). By AI agents, Wed Nov 11 2026. No macro, syntax, notation, axiom, sorry.
-/
import Derived.Test.YtebbcpeldncekaaDoorRows
import GoSem.ClaimSeven
namespace Go.Proofs.YtebbcpeldncekaaDoor
namespace Rows

/-- THE TIED CARD OF 'raddlelaw01.GridChecks'. -/
def gridChecksCard : Claim7 := { stood := { row := gridChecksRow, standIns := [], harness := (true, "592f9e0f8a867d4218080735e5708681f78d0a93c2d1396a3e3eb8ad44363976"), looks := false }, kinds := [], alts := [], laidByText := true, laidKinds := [.data, .pinned], laidTests := true, laidLooks := .later }
def GridChecksCardSaid : Prop := Claim7.holds Tryd.pinned (.plain (OpenSpec.ofChange gridChecksSpec)) gridChecksCard

/-- THE TIED CARD OF 'raddlelaw01.GridBack'. -/
def gridBackCard : Claim7 := { stood := { row := gridBackRow, standIns := [], harness := (true, "592f9e0f8a867d4218080735e5708681f78d0a93c2d1396a3e3eb8ad44363976"), looks := false }, kinds := [], alts := [], laidByText := true, laidKinds := [.data, .pinned], laidTests := true, laidLooks := .later }
def GridBackCardSaid : Prop := Claim7.holds Tryd.pinned (.plain (OpenSpec.ofChange gridBackSpec)) gridBackCard

/-- THE TIED CARD OF 'raddlelaw01.GridExchange'. -/
def gridExchangeCard : Claim7 := { stood := { row := gridExchangeRow, standIns := [], harness := (true, "592f9e0f8a867d4218080735e5708681f78d0a93c2d1396a3e3eb8ad44363976"), looks := false }, kinds := [], alts := [], laidByText := true, laidKinds := [.data, .pinned], laidTests := true, laidLooks := .later }
def GridExchangeCardSaid : Prop := Claim7.holds Tryd.pinned (.plain (OpenSpec.ofChange gridExchangeSpec)) gridExchangeCard

/-- THE TIED CARD OF 'raddlelaw01.GridAlgebra'. -/
def gridAlgebraCard : Claim7 := { stood := { row := gridAlgebraRow, standIns := [], harness := (true, "592f9e0f8a867d4218080735e5708681f78d0a93c2d1396a3e3eb8ad44363976"), looks := false }, kinds := [], alts := [], laidByText := true, laidKinds := [.data, .pinned], laidTests := true, laidLooks := .later }
def GridAlgebraCardSaid : Prop := Claim7.holds Tryd.pinned (.plain (OpenSpec.ofChange gridAlgebraSpec)) gridAlgebraCard

/-- THE TIED CARD OF 'raddlelaw01.GridUndo'. -/
def gridUndoCard : Claim7 := { stood := { row := gridUndoRow, standIns := [], harness := (true, "592f9e0f8a867d4218080735e5708681f78d0a93c2d1396a3e3eb8ad44363976"), looks := false }, kinds := [], alts := [], laidByText := true, laidKinds := [.data, .pinned], laidTests := true, laidLooks := .later }
def GridUndoCardSaid : Prop := Claim7.holds Tryd.pinned (.plain (OpenSpec.ofChange gridUndoSpec)) gridUndoCard

/-- THE TIED CARD OF 'raddlelaw01.GridNames'. -/
def gridNamesCard : Claim7 := { stood := { row := gridNamesRow, standIns := [], harness := (true, "592f9e0f8a867d4218080735e5708681f78d0a93c2d1396a3e3eb8ad44363976"), looks := false }, kinds := [], alts := [], laidByText := true, laidKinds := [.data, .pinned], laidTests := true, laidLooks := .later }
def GridNamesCardSaid : Prop := Claim7.holds Tryd.pinned (.plain (OpenSpec.ofChange gridNamesSpec)) gridNamesCard

/-- THE SECOND FORM's CARD OF 'raddlelaw01.GridChecks'. -/
def gridChecksUptoCard : Claim7 := { stood := { row := gridChecksUptoRow, standIns := [], harness := (true, "592f9e0f8a867d4218080735e5708681f78d0a93c2d1396a3e3eb8ad44363976"), looks := false }, kinds := [], alts := [], laidByText := true, laidKinds := [.data, .pinned], laidTests := true, laidLooks := .later }
def GridChecksUptoCardSaid : Prop := Claim7.holds Tryd.pinned (.plain (OpenSpec.upto gridChecksSpec)) gridChecksUptoCard

/-- THE SECOND FORM's CARD OF 'raddlelaw01.GridBack'. -/
def gridBackUptoCard : Claim7 := { stood := { row := gridBackUptoRow, standIns := [], harness := (true, "592f9e0f8a867d4218080735e5708681f78d0a93c2d1396a3e3eb8ad44363976"), looks := false }, kinds := [], alts := [], laidByText := true, laidKinds := [.data, .pinned], laidTests := true, laidLooks := .later }
def GridBackUptoCardSaid : Prop := Claim7.holds Tryd.pinned (.plain (OpenSpec.upto gridBackSpec)) gridBackUptoCard

/-- THE SECOND FORM's CARD OF 'raddlelaw01.GridExchange'. -/
def gridExchangeUptoCard : Claim7 := { stood := { row := gridExchangeUptoRow, standIns := [], harness := (true, "592f9e0f8a867d4218080735e5708681f78d0a93c2d1396a3e3eb8ad44363976"), looks := false }, kinds := [], alts := [], laidByText := true, laidKinds := [.data, .pinned], laidTests := true, laidLooks := .later }
def GridExchangeUptoCardSaid : Prop := Claim7.holds Tryd.pinned (.plain (OpenSpec.upto gridExchangeSpec)) gridExchangeUptoCard

/-- THE SECOND FORM's CARD OF 'raddlelaw01.GridAlgebra'. -/
def gridAlgebraUptoCard : Claim7 := { stood := { row := gridAlgebraUptoRow, standIns := [], harness := (true, "592f9e0f8a867d4218080735e5708681f78d0a93c2d1396a3e3eb8ad44363976"), looks := false }, kinds := [], alts := [], laidByText := true, laidKinds := [.data, .pinned], laidTests := true, laidLooks := .later }
def GridAlgebraUptoCardSaid : Prop := Claim7.holds Tryd.pinned (.plain (OpenSpec.upto gridAlgebraSpec)) gridAlgebraUptoCard

/-- THE SECOND FORM's CARD OF 'raddlelaw01.GridUndo'. -/
def gridUndoUptoCard : Claim7 := { stood := { row := gridUndoUptoRow, standIns := [], harness := (true, "592f9e0f8a867d4218080735e5708681f78d0a93c2d1396a3e3eb8ad44363976"), looks := false }, kinds := [], alts := [], laidByText := true, laidKinds := [.data, .pinned], laidTests := true, laidLooks := .later }
def GridUndoUptoCardSaid : Prop := Claim7.holds Tryd.pinned (.plain (OpenSpec.upto gridUndoSpec)) gridUndoUptoCard

/-- THE SECOND FORM's CARD OF 'raddlelaw01.GridNames'. -/
def gridNamesUptoCard : Claim7 := { stood := { row := gridNamesUptoRow, standIns := [], harness := (true, "592f9e0f8a867d4218080735e5708681f78d0a93c2d1396a3e3eb8ad44363976"), looks := false }, kinds := [], alts := [], laidByText := true, laidKinds := [.data, .pinned], laidTests := true, laidLooks := .later }
def GridNamesUptoCardSaid : Prop := Claim7.holds Tryd.pinned (.plain (OpenSpec.upto gridNamesSpec)) gridNamesUptoCard
end Rows
end Go.Proofs.YtebbcpeldncekaaDoor
