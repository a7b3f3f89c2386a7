/- Parts of the proof, in their order. -/
import Derived.Test.YtfjdlbilnoojkaaMendz
import Derived.Test.YtfjdlbilnoojkaaGdz
import Derived.Test.YtfjdlbilnoojkaaStz
/- Blocks of two cells; the rows of a grid. Nothing here names a function of the program. -/
namespace Go.Proofs.Ytfjdlbilnoojkaa
open Go.RowKit

section
variable {w w' : World} {g : Nat} {t : TypeId} {cs : Array Value}
theorem Blk.cell2 {a b : Value} (h : Blk w g t #[a, b]) : w.cell? ⟨g, 0, none⟩ = some a ∧ w.cell? ⟨g, 1, none⟩ = some b := ⟨h.cell 0, h.cell 1⟩
theorem Blk.frozen2 (h : Blk w g t cs) : w.frozen? ⟨g, 0, none⟩ = false ∧ w.frozen? ⟨g, 1, none⟩ = false := ⟨h.frozen 0, h.frozen 1⟩
theorem Blk.set2 {x y : Value} (h : Blk w g t #[x, y]) (a b : Value) : Blk ((w.setCell ⟨g, 0, none⟩ a).setCell ⟨g, 1, none⟩ b) g t #[a, b] := by
  simpa using (h.set_ 0 a).set_ 1 b
theorem below_set2 {B R : Nat} (h : Below B w w') (hB : B ≤ R) (a b : Value) : Below B w ((w'.setCell ⟨R, 0, none⟩ a).setCell ⟨R, 1, none⟩ b) := (h.setCell (p := ⟨R, 0, none⟩) hB a).setCell (p := ⟨R, 1, none⟩) hB b
end
theorem rowsB_getD {a h k : Nat} {bs : List Bool} (hk : k < h) : (rowsB a h bs).getD k [] = rowB a bs k := by rw [List.getD_eq_getElem?_getD, rowsB_at hk]; rfl
theorem rowsB_rows {a h : Nat} {bs : List Bool} (hl : bs.length = h * a) : RowsN a (rowsB a h bs) := fun r hr => by
  obtain ⟨y, hy, rfl⟩ := List.mem_map.1 hr
  exact rowB_len hl (List.mem_range.1 hy)
end Go.Proofs.Ytfjdlbilnoojkaa
/- What a call gives that hands back no grid, with an error. -/
namespace Go.Proofs.Ytfjdlbilnoojkaa
open Go.RowKit
/-- A grid that is not there, with its error. -/
def ErrG (t : Int) (w : World) (e : Ending) (w' : World) : Prop := ∃ A n c, e = .returned (.tuple #[.agg #[.int .i64 0, .int .i64 0, .slice A n c], .int .i64 t]) ∧ Below w.heap.size w w'
theorem errG_of {t : Int} {w w' : World} {e : Ending} (h : RetG (Gd.zero, t) w e w') : ErrG t w e w' := by
  obtain ⟨A, n, c, rfl, _, hb⟩ := h
  exact ⟨A, n, c, rfl, hb⟩
end Go.Proofs.Ytfjdlbilnoojkaa
