/- Parts of the proof, in their order. -/
import Derived.Test.YtefeghpglacghaaMg1z
import Derived.Test.YtefeghpglacghaaImz
/- Slices that came in as arguments, opened. -/
namespace Go.Proofs.Ytefeghpglacghaa
open Go.RowKit Go.ChangeShapes Go.WideShapes Go.Joins

set_option maxRecDepth 100000 in
theorem open_ilist {H : Type} {enc : TypeId × Value → H} {W : World} {base : Nat} {v : Value} {d : DataW H} {p : List MemPlace}
    (hv : Value.okWide Try.prog W .any base 22 v) (h : DataW.Trod enc Try.prog W 0 (fun _ => true) true 22 v d p) :
    ∃ A n c zs, v = .slice A n c ∧ n ≤ c ∧ c ≤ maxLen ∧ Rd W A n (List.map (Value.int .i64) zs) ∧ ∀ z ∈ zs, (Lit.int .i64 z).wf = true := by
  obtain ⟨a0, len, cap, rfl⟩ := okWide_slice Try.underlying22 hv
  obtain ⟨fuel, hf⟩ := h
  exact rd_ints Try.underlying22 Try.underlying3 (by kernel_rfl) hf
end Go.Proofs.Ytefeghpglacghaa
/- Images that came in as arguments, opened. -/
namespace Go.Proofs.Ytefeghpglacghaa
open Go.RowKit Go.ChangeShapes Go.WideShapes Go.Joins

theorem Try.cellsImage : Try.prog.cellsOf 24 = 3 := by kernel_rfl

set_option maxRecDepth 100000 in
theorem open_image {H : Type} {enc : TypeId × Value → H} {W : World} {base : Nat} {v : Value} {d : DataW H} {p : List MemPlace}
    (hv : Value.okWide Try.prog W .any base 24 v) (h : DataW.Trod enc Try.prog W 0 (fun _ => true) true 24 v d p) :
    ∃ (m : Im) (A : Option Addr) (n c : Nat), v = .agg #[.int .i64 m.w, .int .i64 m.h, .slice A n c] ∧ Rd W A n (m.c.map (Value.int .i64)) ∧ n ≤ c ∧ c ≤ maxLen ∧
      (-9223372036854775808 ≤ m.w ∧ m.w ≤ 9223372036854775807) ∧ (-9223372036854775808 ≤ m.h ∧ m.h ≤ 9223372036854775807) := by
  obtain ⟨v0, v1, v2, y0, y1, y2, m, rfl, _, _, h0, h1, h2⟩ := open_agg3 Try.underlying24 (by kernel_rfl) Try.cellsImage hv h
  obtain ⟨a, e0, _, wa⟩ := DataW.trod_int Try.underlying3 h0
  obtain ⟨b, e1, _, wb⟩ := DataW.trod_int Try.underlying3 h1
  obtain ⟨A, n, c, zs, rfl, hn, hc, hr, _⟩ := rd_ints Try.underlying22 Try.underlying3 (by kernel_rfl) h2
  simp only [List.cons.injEq, and_true] at e0 e1
  subst e0 e1
  exact ⟨⟨a, b, zs⟩, A, n, c, rfl, hr, hn, hc, wf_range wa, wf_range wb⟩
end Go.Proofs.Ytefeghpglacghaa
