/- Parts of the proof, in their order. -/
import Derived.Test.YtmajmbfbnchbfaaMg1z
import Derived.Test.YtmajmbfbnchbfaaProg
import Derived.KernelRfl
import Derived.Test.YtmajmbfbnchbfaaMg3z
/- Arguments of the program's own types, opened. -/
namespace Go.Proofs.Ytmajmbfbnchbfaa
open Go.RowKit Go.ChangeShapes Go.WideShapes Go.Joins

theorem Try.cellsGrid : Try.prog.cellsOf 25 = 3 := by kernel_rfl
theorem Try.cellsBool : Try.prog.cellsOf 4 = 1 := by kernel_rfl

/-- An int64 that came in is in its range. -/
theorem wf_range {n : Int} (h : (Lit.int .i64 n).wf = true) : -9223372036854775808 ≤ n ∧ n ≤ 9223372036854775807 := by
  have hmin : IntKind.i64.min = -9223372036854775808 := rfl
  have hmax : IntKind.i64.max = 9223372036854775807 := rfl
  simp only [Lit.wf, Bool.and_eq_true, decide_eq_true_eq] at h
  omega

set_option maxRecDepth 100000 in
theorem open_grid {H : Type} {enc : TypeId × Value → H} {W : World} {base : Nat} {v : Value} {d : DataW H} {p : List MemPlace}
    (hv : Value.okWide Try.prog W .any base 25 v) (h : DataW.Trod enc Try.prog W 0 (fun _ => true) true 25 v d p) :
    ∃ (g : Gd) (A : Option Addr) (n c : Nat), v = .agg #[.int .i64 g.w, .int .i64 g.h, .slice A n c] ∧ Rd W A n (g.bits.map Value.bool) ∧ n ≤ c ∧ c ≤ maxLen ∧
      (-9223372036854775808 ≤ g.w ∧ g.w ≤ 9223372036854775807) ∧ (-9223372036854775808 ≤ g.h ∧ g.h ≤ 9223372036854775807) := by
  obtain ⟨v0, v1, v2, y0, y1, y2, m, rfl, _, _, h0, h1, h2⟩ := open_agg3 Try.underlying25 (by kernel_rfl) Try.cellsGrid hv h
  obtain ⟨a, e0, _, wa⟩ := DataW.trod_int Try.underlying3 h0
  obtain ⟨b, e1, _, wb⟩ := DataW.trod_int Try.underlying3 h1
  obtain ⟨A, n, c, bs, rfl, hn, hc, hr⟩ := rd_bools Try.underlying23 Try.underlying4 Try.cellsBool h2
  simp only [List.cons.injEq, and_true] at e0 e1
  subst e0 e1
  exact ⟨⟨a, b, bs⟩, A, n, c, rfl, hr, hn, hc, wf_range wa, wf_range wb⟩

end Go.Proofs.Ytmajmbfbnchbfaa
/- Slices that came in as arguments, opened. -/
namespace Go.Proofs.Ytmajmbfbnchbfaa
open Go.RowKit Go.ChangeShapes Go.WideShapes Go.Joins

set_option maxRecDepth 100000 in
theorem open_ilist {H : Type} {enc : TypeId × Value → H} {W : World} {base : Nat} {v : Value} {d : DataW H} {p : List MemPlace}
    (hv : Value.okWide Try.prog W .any base 22 v) (h : DataW.Trod enc Try.prog W 0 (fun _ => true) true 22 v d p) :
    ∃ A n c zs, v = .slice A n c ∧ n ≤ c ∧ c ≤ maxLen ∧ Rd W A n (List.map (Value.int .i64) zs) ∧ ∀ z ∈ zs, (Lit.int .i64 z).wf = true := by
  obtain ⟨a0, len, cap, rfl⟩ := okWide_slice Try.underlying22 hv
  obtain ⟨fuel, hf⟩ := h
  exact rd_ints Try.underlying22 Try.underlying3 (by kernel_rfl) hf
end Go.Proofs.Ytmajmbfbnchbfaa
/- The reference's Check of layer 1 gives the error 'chk', for any grid. -/
namespace Go.Proofs.Ytmajmbfbnchbfaa
open Go.RowKit

theorem rcheck_any (W H : Int) (A : Option Addr) (n c : Nat) (w : World) :
    Calls Try.prog 7 #[.agg #[.int .i64 W, .int .i64 H, .slice A n c]] w fun e w' => e = .returned (.int .i64 (chk W H n)) ∧ Below w.heap.size w w' := by
  by_cases hb : 64 < W ∨ 64 < H
  · go_enter Try.func7, Try.ntmps7
    go_wp2
    all_goals (go_ret; exact ⟨ret_i (chk_big hb).symm, (Below.refl _ _).alloc (Nat.le_refl _) _⟩)
  by_cases hs : W < 1 ∨ H < 1
  · have hW : W ≤ 64 := by omega
    have hH : H ≤ 64 := by omega
    go_enter Try.func7, Try.ntmps7
    go_wp2
    all_goals (go_ret; exact ⟨ret_i (chk_bad hW hH (by omega)).symm, (Below.refl _ _).alloc (Nat.le_refl _) _⟩)
  have hW : W ≤ 64 := by omega
  have hH : H ≤ 64 := by omega
  have hW1 : 1 ≤ W := by omega
  have hH1 : 1 ≤ H := by omega
  have hm := mul_wrap hW hH hW1 hH1
  by_cases hl : (n : Int) = W * H
  · have hl' : ((n : Int) != wrap64 (W * H)) = false := by rw [hm, bne_eq_false_iff_eq]; exact hl
    have HL := Lib.hid hl; clear hl
    have HM := Lib.hid hm; clear hm
    go_enter Try.func7, Try.ntmps7
    go_wp2
    all_goals (go_ret; exact ⟨ret_i (chk_ok hW hH hW1 hH1 HL.out).symm, (Below.refl _ _).alloc (Nat.le_refl _) _⟩)
  · have hl' : ((n : Int) != wrap64 (W * H)) = true := by rw [hm, bne_iff_ne]; exact hl
    have HL := Lib.hid hl; clear hl
    have HM := Lib.hid hm; clear hm
    go_enter Try.func7, Try.ntmps7
    go_wp2
    all_goals (go_ret; exact ⟨ret_i (chk_bad hW hH (.inr (.inr HL.out))).symm, (Below.refl _ _).alloc (Nat.le_refl _) _⟩)
end Go.Proofs.Ytmajmbfbnchbfaa
