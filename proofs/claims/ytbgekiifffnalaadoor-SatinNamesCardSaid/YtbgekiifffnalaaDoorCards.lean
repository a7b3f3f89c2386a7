/-
  DERIVED. GIVEN WITH THE SEED: THE CARDS: each row of YtbgekiifffnalaaDoorRows.lean that lists a variable, with what it lists TIED to the program's text (the seventh form; the later family's looks); each row that meets fmt, with fmt's text TOLD by the authors' own Lean function (tested against real Go, not proved from fmt's source: count such statements apart). THE CARD IS WHAT COUNTS. Prove the row's statement (the work); the ties are given (YtbgekiifffnalaaDoorTie.lean); close each card by the builder's one call (the guide's Derived/Test/ToyasCard.lean, 'card_holds'). Laid BY PROGRAM, IN A SANDBOX (cutbox-door.mjs). By AI agents, Wed Nov 11 2026. No macro, syntax, notation, axiom, sorry.
-/
import Derived.Test.YtbgekiifffnalaaDoorRows
import GoSem.ClaimSeven
namespace Go.Proofs.YtbgekiifffnalaaDoor
namespace Rows

/-- THE TIED CARD OF 'raddlelaw09.SatinNames'. -/
def satinNamesCard : Claim7 := { stood := { row := satinNamesRow, standIns := [], harness := (true, "0b925f5057e679e2ea874c32b962ee83bb40098c18143485c7e31b93ae5659bc"), looks := false }, kinds := [], alts := [], laidByText := true, laidKinds := [.data, .pinned], laidTests := true, laidLooks := .later }
def SatinNamesCardSaid : Prop := Claim7.holds Tryd.pinned (.plain (OpenSpec.ofChange satinNamesSpec)) satinNamesCard

/-- THE SECOND FORM's CARD OF 'raddlelaw09.SatinNames'. -/
def satinNamesUptoCard : Claim7 := { stood := { row := satinNamesUptoRow, standIns := [], harness := (true, "0b925f5057e679e2ea874c32b962ee83bb40098c18143485c7e31b93ae5659bc"), looks := false }, kinds := [], alts := [], laidByText := true, laidKinds := [.data, .pinned], laidTests := true, laidLooks := .later }
def SatinNamesUptoCardSaid : Prop := Claim7.holds Tryd.pinned (.plain (OpenSpec.upto satinNamesSpec)) satinNamesUptoCard
end Rows
end Go.Proofs.YtbgekiifffnalaaDoor
