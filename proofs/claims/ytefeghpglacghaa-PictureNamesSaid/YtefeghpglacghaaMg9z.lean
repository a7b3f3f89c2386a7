/- Parts of the proof, in their order. -/
import Derived.Test.YtefeghpglacghaaStz
import Derived.Test.YtefeghpglacghaaGdz
/- More on slices that are read: writes elsewhere. Nothing here names a function of the program. -/
namespace Go.Proofs.Ytefeghpglacghaa
open Go.RowKit

theorem Rd.grown2 {w w' : World} {A : Option Addr} {n : Nat} {xs : List Value} {row : Option Nat} (h : Rd w A n xs) (hg : w.grownBy w' row) (ho : ∀ b o, A = some ⟨b, o, none⟩ → 0 < n → some b ≠ row) : Rd w' A n xs := by
  refine ⟨h.1, fun hn => ?_⟩
  obtain ⟨b, o, hA, hb, hc⟩ := h.at_ hn
  exact ⟨b, o, hA, fun j u hu => (World.cell?_of_block (w := w) (a := ⟨b, o + j, none⟩) (hg.block b hb (ho b o hA hn))).trans (hc j u hu)⟩
theorem Rd.far {w : World} {A : Option Addr} {n : Nat} {xs : List Value} (h : Rd w A n xs) {p : Addr} (hp : ∀ b o, A = some ⟨b, o, none⟩ → 0 < n → b ≠ p.block) (u : Value) : Rd (w.setCell p u) A n xs := by
  refine ⟨h.1, fun hn => ?_⟩
  obtain ⟨b, o, hA, hb, hc⟩ := h.at_ hn
  exact ⟨b, o, hA, fun j v hv => (World.cell?_of_block (w := w) (a := ⟨b, o + j, none⟩) (Below.heap_setCell w p u b (fun e => hp b o hA hn e))).trans (hc j v hv)⟩

end Go.Proofs.Ytefeghpglacghaa
/- What a call gives that hands back no grid, with an error. -/
namespace Go.Proofs.Ytefeghpglacghaa
open Go.RowKit
/-- A grid that is not there, with its error. -/
def ErrG (t : Int) (w : World) (e : Ending) (w' : World) : Prop := ∃ A n c, e = .returned (.tuple #[.agg #[.int .i64 0, .int .i64 0, .slice A n c], .int .i64 t]) ∧ Below w.heap.size w w'
theorem errG_of {t : Int} {w w' : World} {e : Ending} (h : RetG (Gd.zero, t) w e w') : ErrG t w e w' := by
  obtain ⟨A, n, c, rfl, _, hb⟩ := h
  exact ⟨A, n, c, rfl, hb⟩
end Go.Proofs.Ytefeghpglacghaa
