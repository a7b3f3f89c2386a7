/- Images that came in as arguments, opened. -/
import Derived.Test.YtpfonniepinjnaaDoorArgsL
import Derived.Test.YtpfonniepinjnaaDoorIm
namespace Go.Proofs.YtpfonniepinjnaaDoor
open Go.RowKit Go.ChangeShapes Go.WideShapes Go.Joins

theorem Tryd.cellsImage : Tryd.prog.cellsOf 24 = 3 := by kernel_rfl

set_option maxRecDepth 100000 in
theorem open_image {H : Type} {enc : TypeId × Value → H} {W : World} {base : Nat} {v : Value} {d : DataW H} {p : List MemPlace}
    (hv : Value.okWide Tryd.prog W .any base 24 v) (h : DataW.Trod enc Tryd.prog W 0 (fun _ => true) true 24 v d p) :
    ∃ (m : Im) (A : Option Addr) (n c : Nat), v = .agg #[.int .i64 m.w, .int .i64 m.h, .slice A n c] ∧ Rd W A n (m.c.map (Value.int .i64)) ∧ n ≤ c ∧ c ≤ maxLen ∧
      (-9223372036854775808 ≤ m.w ∧ m.w ≤ 9223372036854775807) ∧ (-9223372036854775808 ≤ m.h ∧ m.h ≤ 9223372036854775807) := by
  obtain ⟨v0, v1, v2, y0, y1, y2, m, rfl, _, _, h0, h1, h2⟩ := open_agg3 Tryd.underlying24 (by kernel_rfl) Tryd.cellsImage hv h
  obtain ⟨a, e0, _, wa⟩ := DataW.trod_int Tryd.underlying3 h0
  obtain ⟨b, e1, _, wb⟩ := DataW.trod_int Tryd.underlying3 h1
  obtain ⟨A, n, c, zs, rfl, hn, hc, hr, _⟩ := rd_ints Tryd.underlying22 Tryd.underlying3 (by kernel_rfl) h2
  simp only [List.cons.injEq, and_true] at e0 e1
  subst e0 e1
  exact ⟨⟨a, b, zs⟩, A, n, c, rfl, hr, hn, hc, wf_range wa, wf_range wb⟩
end Go.Proofs.YtpfonniepinjnaaDoor
