/- Parts of the proof, in their order. -/
import Derived.Test.YtmajmbfbnchbfaaProg
import Derived.Test.YtmajmbfbnchbfaaMg1z
import Derived.KernelRfl
import Derived.Handy
import Derived.Outline
import Derived.Deep.DeepMust
import Derived.Deep.RegionLaw
import Derived.Shelf.Abstract
import Derived.Deep.RegionHeld3
import Derived.Deep.AppendLies
import Derived.Test.YtmajmbfbnchbfaaLibz
import Derived.WalkKit
import Derived.Test.YtmajmbfbnchbfaaMg2z
/- grid.Check gives the error 'chk', for any grid. -/
namespace Go.Proofs.Ytmajmbfbnchbfaa
open Go.RowKit

theorem ret_i {k : IntKind} {a b : Int} (h : a = b) : Ending.returned (.int k a) = Ending.returned (.int k b) := by rw [h]

theorem check_any (W H : Int) (A : Option Addr) (n c : Nat) (w : World) :
    Calls Try.prog 43 #[.agg #[.int .i64 W, .int .i64 H, .slice A n c]] w fun e w' => e = .returned (.int .i64 (chk W H n)) ∧ Below w.heap.size w w' := by
  by_cases hb : 64 < W ∨ 64 < H
  · go_enter Try.func43, Try.ntmps43
    go_wp2
    all_goals (go_ret; exact ⟨ret_i (chk_big hb).symm, (Below.refl _ _).alloc (Nat.le_refl _) _⟩)
  by_cases hs : W < 1 ∨ H < 1
  · have hW : W ≤ 64 := by omega
    have hH : H ≤ 64 := by omega
    go_enter Try.func43, Try.ntmps43
    go_wp2
    all_goals (go_ret; exact ⟨ret_i (chk_bad hW hH (by omega)).symm, (Below.refl _ _).alloc (Nat.le_refl _) _⟩)
  have hW : W ≤ 64 := by omega
  have hH : H ≤ 64 := by omega
  have hW1 : 1 ≤ W := by omega
  have hH1 : 1 ≤ H := by omega
  have hm := mul_wrap hW hH hW1 hH1
  by_cases hl : (n : Int) = W * H
  · have hl' : ((n : Int) != wrap64 (W * H)) = false := by rw [hm, bne_eq_false_iff_eq]; exact hl
    have HL := Lib.hid hl; clear hl
    have HM := Lib.hid hm; clear hm
    go_enter Try.func43, Try.ntmps43
    go_wp2
    all_goals (go_ret; exact ⟨ret_i (chk_ok hW hH hW1 hH1 HL.out).symm, (Below.refl _ _).alloc (Nat.le_refl _) _⟩)
  · have hl' : ((n : Int) != wrap64 (W * H)) = true := by rw [hm, bne_iff_ne]; exact hl
    have HL := Lib.hid hl; clear hl
    have HM := Lib.hid hm; clear hm
    go_enter Try.func43, Try.ntmps43
    go_wp2
    all_goals (go_ret; exact ⟨ret_i (chk_bad hW hH (.inr (.inr HL.out))).symm, (Below.refl _ _).alloc (Nat.le_refl _) _⟩)
end Go.Proofs.Ytmajmbfbnchbfaa
/- The type bool's entry; a function value that gives cells. -/
namespace Go.Proofs.Ytmajmbfbnchbfaa
open Go.RowKit

/-- A function value that gives the cell (x, y) of a table, whatever has been made since w. -/
def Gives (f : FuncId) (caps : Array Value) (a b : Nat) (F : Nat → Nat → Bool) (w : World) : Prop :=
  ∀ (w' : World) (x y : Nat), Below w.heap.size w w' → x < a → y < b →
    Calls Try.prog f (#[.int .i64 x, .int .i64 y] ++ caps) w' fun e w'' => e = .returned (.bool (F x y)) ∧ Below w'.heap.size w' w''

theorem Try.infoB : (Try.prog.info? 4).map (fun i => (i.zero, i.size, i.bytes)) = some (some (.bool false), 1, 1) := by kernel_rfl

end Go.Proofs.Ytmajmbfbnchbfaa
/- What the program says of the type int. -/
namespace Go.Proofs.Ytmajmbfbnchbfaa
open Go.RowKit
theorem Try.infoI : (Try.prog.info? 3).map (fun i => (i.zero, i.size, i.bytes)) = some (some (.int .i64 0), 1, 8) := by kernel_rfl
end Go.Proofs.Ytmajmbfbnchbfaa
/- A list of numbers and an error, in new memory. -/
namespace Go.Proofs.Ytmajmbfbnchbfaa
open Go.RowKit
theorem own_le {w : World} {base : Nat} {e : TypeId} {A : Option Addr} {n c : Nat} {xs : List Value} (h : w.ownsRow base e 1 (.slice A n c) n xs) : n ≤ c := by
  obtain ⟨A', c', hv, h1, _⟩ := own_shape h
  injection hv with _ _ h3
  omega
def RetL (r : List Int × Int) (w : World) (e : Ending) (w' : World) : Prop :=
  ∃ A n c, e = .returned (.tuple #[.slice A n c, .int .i64 r.2]) ∧ w'.ownsRow w.heap.size 3 1 (.slice A n c) n (r.1.map (Value.int .i64)) ∧ Below w.heap.size w w'
theorem retL_bad {t : Int} {w w' : World} (hb : Below w.heap.size w w') : RetL ([], t) w (.returned (.tuple #[.slice none 0 0, .int .i64 t])) w' := ⟨none, 0, 0, rfl, World.ownsRow_nil _ _ _ _, hb⟩
end Go.Proofs.Ytmajmbfbnchbfaa
