/- More on slices that are read: writes elsewhere. Nothing here names a function of the program. -/
import Derived.Test.YtfjdlbilnoojkaaStz
namespace Go.Proofs.Ytfjdlbilnoojkaa
open Go.RowKit

theorem Rd.grown2 {w w' : World} {A : Option Addr} {n : Nat} {xs : List Value} {row : Option Nat} (h : Rd w A n xs) (hg : w.grownBy w' row) (ho : ∀ b o, A = some ⟨b, o, none⟩ → 0 < n → some b ≠ row) : Rd w' A n xs := by
  refine ⟨h.1, fun hn => ?_⟩
  obtain ⟨b, o, hA, hb, hc⟩ := h.at_ hn
  exact ⟨b, o, hA, fun j u hu => (World.cell?_of_block (w := w) (a := ⟨b, o + j, none⟩) (hg.block b hb (ho b o hA hn))).trans (hc j u hu)⟩
theorem Rd.far {w : World} {A : Option Addr} {n : Nat} {xs : List Value} (h : Rd w A n xs) {p : Addr} (hp : ∀ b o, A = some ⟨b, o, none⟩ → 0 < n → b ≠ p.block) (u : Value) : Rd (w.setCell p u) A n xs := by
  refine ⟨h.1, fun hn => ?_⟩
  obtain ⟨b, o, hA, hb, hc⟩ := h.at_ hn
  exact ⟨b, o, hA, fun j v hv => (World.cell?_of_block (w := w) (a := ⟨b, o + j, none⟩) (Below.heap_setCell w p u b (fun e => hp b o hA hn e))).trans (hc j v hv)⟩

end Go.Proofs.Ytfjdlbilnoojkaa
