/- Parts of the proof, in their order. -/
import Derived.Test.YtefeghpglacghaaMg1z
import Derived.Test.YtefeghpglacghaaImz
import Derived.Test.YtefeghpglacghaaProg
import Derived.Test.YtefeghpglacghaaGdz
import Derived.KernelRfl
import Derived.Test.YtefeghpglacghaaLibz
import Derived.Test.YtefeghpglacghaaStz
/- Images that came in as arguments, opened. -/
namespace Go.Proofs.Ytefeghpglacghaa
open Go.RowKit Go.ChangeShapes Go.WideShapes Go.Joins

theorem Try.cellsImage : Try.prog.cellsOf 24 = 3 := by kernel_rfl

set_option maxRecDepth 100000 in
theorem open_image {H : Type} {enc : TypeId × Value → H} {W : World} {base : Nat} {v : Value} {d : DataW H} {p : List MemPlace}
    (hv : Value.okWide Try.prog W .any base 24 v) (h : DataW.Trod enc Try.prog W 0 (fun _ => true) true 24 v d p) :
    ∃ (m : Im) (A : Option Addr) (n c : Nat), v = .agg #[.int .i64 m.w, .int .i64 m.h, .slice A n c] ∧ Rd W A n (m.c.map (Value.int .i64)) ∧ n ≤ c ∧ c ≤ maxLen ∧
      (-9223372036854775808 ≤ m.w ∧ m.w ≤ 9223372036854775807) ∧ (-9223372036854775808 ≤ m.h ∧ m.h ≤ 9223372036854775807) := by
  obtain ⟨v0, v1, v2, y0, y1, y2, m, rfl, _, _, h0, h1, h2⟩ := open_agg3 Try.underlying24 (by kernel_rfl) Try.cellsImage hv h
  obtain ⟨a, e0, _, wa⟩ := DataW.trod_int Try.underlying3 h0
  obtain ⟨b, e1, _, wb⟩ := DataW.trod_int Try.underlying3 h1
  obtain ⟨A, n, c, zs, rfl, hn, hc, hr, _⟩ := rd_ints Try.underlying22 Try.underlying3 (by kernel_rfl) h2
  simp only [List.cons.injEq, and_true] at e0 e1
  subst e0 e1
  exact ⟨⟨a, b, zs⟩, A, n, c, rfl, hr, hn, hc, wf_range wa, wf_range wb⟩
end Go.Proofs.Ytefeghpglacghaa
/- grid.Check gives the error 'chk', for any grid. -/
namespace Go.Proofs.Ytefeghpglacghaa
open Go.RowKit

theorem ret_i {k : IntKind} {a b : Int} (h : a = b) : Ending.returned (.int k a) = Ending.returned (.int k b) := by rw [h]

theorem check_any (W H : Int) (A : Option Addr) (n c : Nat) (w : World) :
    Calls Try.prog 73 #[.agg #[.int .i64 W, .int .i64 H, .slice A n c]] w fun e w' => e = .returned (.int .i64 (chk W H n)) ∧ Below w.heap.size w w' := by
  by_cases hb : 64 < W ∨ 64 < H
  · go_enter Try.func73, Try.ntmps73
    go_wp2
    all_goals (go_ret; exact ⟨ret_i (chk_big hb).symm, (Below.refl _ _).alloc (Nat.le_refl _) _⟩)
  by_cases hs : W < 1 ∨ H < 1
  · have hW : W ≤ 64 := by omega
    have hH : H ≤ 64 := by omega
    go_enter Try.func73, Try.ntmps73
    go_wp2
    all_goals (go_ret; exact ⟨ret_i (chk_bad hW hH (by omega)).symm, (Below.refl _ _).alloc (Nat.le_refl _) _⟩)
  have hW : W ≤ 64 := by omega
  have hH : H ≤ 64 := by omega
  have hW1 : 1 ≤ W := by omega
  have hH1 : 1 ≤ H := by omega
  have hm := mul_wrap hW hH hW1 hH1
  by_cases hl : (n : Int) = W * H
  · have hl' : ((n : Int) != wrap64 (W * H)) = false := by rw [hm, bne_eq_false_iff_eq]; exact hl
    have HL := Lib.hid hl; clear hl
    have HM := Lib.hid hm; clear hm
    go_enter Try.func73, Try.ntmps73
    go_wp2
    all_goals (go_ret; exact ⟨ret_i (chk_ok hW hH hW1 hH1 HL.out).symm, (Below.refl _ _).alloc (Nat.le_refl _) _⟩)
  · have hl' : ((n : Int) != wrap64 (W * H)) = true := by rw [hm, bne_iff_ne]; exact hl
    have HL := Lib.hid hl; clear hl
    have HM := Lib.hid hm; clear hm
    go_enter Try.func73, Try.ntmps73
    go_wp2
    all_goals (go_ret; exact ⟨ret_i (chk_bad hW hH (.inr (.inr HL.out))).symm, (Below.refl _ _).alloc (Nat.le_refl _) _⟩)
end Go.Proofs.Ytefeghpglacghaa
/- What the program says of the type int. -/
namespace Go.Proofs.Ytefeghpglacghaa
open Go.RowKit
theorem Try.infoI : (Try.prog.info? 3).map (fun i => (i.zero, i.size, i.bytes)) = some (some (.int .i64 0), 1, 8) := by kernel_rfl
end Go.Proofs.Ytefeghpglacghaa
/- A list of numbers and an error, in new memory. -/
namespace Go.Proofs.Ytefeghpglacghaa
open Go.RowKit
theorem own_le {w : World} {base : Nat} {e : TypeId} {A : Option Addr} {n c : Nat} {xs : List Value} (h : w.ownsRow base e 1 (.slice A n c) n xs) : n ≤ c := by
  obtain ⟨A', c', hv, h1, _⟩ := own_shape h
  injection hv with _ _ h3
  omega
def RetL (r : List Int × Int) (w : World) (e : Ending) (w' : World) : Prop :=
  ∃ A n c, e = .returned (.tuple #[.slice A n c, .int .i64 r.2]) ∧ w'.ownsRow w.heap.size 3 1 (.slice A n c) n (r.1.map (Value.int .i64)) ∧ Below w.heap.size w w'
theorem retL_bad {t : Int} {w w' : World} (hb : Below w.heap.size w w') : RetL ([], t) w (.returned (.tuple #[.slice none 0 0, .int .i64 t])) w' := ⟨none, 0, 0, rfl, World.ownsRow_nil _ _ _ _, hb⟩
end Go.Proofs.Ytefeghpglacghaa
