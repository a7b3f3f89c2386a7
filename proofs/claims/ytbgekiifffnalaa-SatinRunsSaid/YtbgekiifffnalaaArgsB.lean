/- A slice of bools that came in as an argument, opened. -/
import Derived.Test.YtbgekiifffnalaaArgs
namespace Go.Proofs.Ytbgekiifffnalaa
open Go.RowKit Go.ChangeShapes Go.WideShapes Go.Joins

set_option maxRecDepth 100000 in
theorem open_blist {H : Type} {enc : TypeId × Value → H} {W : World} {base : Nat} {v : Value} {d : DataW H} {p : List MemPlace}
    (hv : Value.okWide Try.prog W .any base 22 v) (h : DataW.Trod enc Try.prog W 0 (fun _ => true) true 22 v d p) :
    ∃ A n c bs, v = .slice A n c ∧ n ≤ c ∧ c ≤ maxLen ∧ Rd W A n (List.map Value.bool bs) := by
  obtain ⟨a0, len, cap, rfl⟩ := okWide_slice Try.underlying22 hv
  obtain ⟨fuel, hf⟩ := h
  exact rd_bools Try.underlying22 Try.underlying4 Try.cellsBool hf
end Go.Proofs.Ytbgekiifffnalaa
