/- A row of bools in new memory. -/
import Derived.Test.YtbgekiifffnalaaDoorRowsP
import Derived.Test.YtbgekiifffnalaaDoorInfoB
import Derived.Outline
import Derived.IntWalk
namespace Go.Proofs.YtbgekiifffnalaaDoor
open Go.RowKit

theorem ints_cell {w : World} {bl o n k : Nat} {l : List Int} (h : Rd w (some ⟨bl, o, none⟩) n (l.map (Value.int .i64))) (hk : k < n) : w.cell? ⟨bl, o + k, none⟩ = some (.int .i64 (l.getD k 0)) := by
  have hl : l.length = n := by simpa using h.len
  exact h.lit k _ (by rw [List.getElem?_map, List.getElem?_eq_getElem (by omega)]; simp [List.getD, show k < l.length by omega])

/-- A row of bools alone, in new memory. -/
def RetB (l : List Bool) (w : World) (e : Ending) (w' : World) : Prop :=
  ∃ A n c, e = .returned (.slice A n c) ∧ w'.ownsRow w.heap.size 4 1 (.slice A n c) n (l.map Value.bool) ∧ Below w.heap.size w w'
end Go.Proofs.YtbgekiifffnalaaDoor
