/- Slices that came in as arguments, opened. -/
import Derived.Test.YtpfonniepinjnaaDoorArgs
namespace Go.Proofs.YtpfonniepinjnaaDoor
open Go.RowKit Go.ChangeShapes Go.WideShapes Go.Joins

set_option maxRecDepth 100000 in
theorem open_ilist {H : Type} {enc : TypeId × Value → H} {W : World} {base : Nat} {v : Value} {d : DataW H} {p : List MemPlace}
    (hv : Value.okWide Tryd.prog W .any base 22 v) (h : DataW.Trod enc Tryd.prog W 0 (fun _ => true) true 22 v d p) :
    ∃ A n c zs, v = .slice A n c ∧ n ≤ c ∧ c ≤ maxLen ∧ Rd W A n (List.map (Value.int .i64) zs) ∧ ∀ z ∈ zs, (Lit.int .i64 z).wf = true := by
  obtain ⟨a0, len, cap, rfl⟩ := okWide_slice Tryd.underlying22 hv
  obtain ⟨fuel, hf⟩ := h
  exact rd_ints Tryd.underlying22 Tryd.underlying3 (by kernel_rfl) hf
end Go.Proofs.YtpfonniepinjnaaDoor
