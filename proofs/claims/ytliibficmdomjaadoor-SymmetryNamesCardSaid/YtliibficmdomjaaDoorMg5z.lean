/- Parts of the proof, in their order. -/
import Derived.Test.YtliibficmdomjaaDoorMg4z
import Derived.Test.YtliibficmdomjaaDoorMg3z
import Derived.Test.YtliibficmdomjaaDoorMg2z
import Derived.Handy
import Derived.Outline
import Derived.Deep.DeepMust
import Derived.Deep.RegionLaw
import Derived.Shelf.Abstract
import Derived.Deep.RegionHeld3
import Derived.Deep.AppendLies
/- What both Offset functions answer, as a relation; the look at one cell; blocks of two places. -/
namespace Go.Proofs.YtliibficmdomjaaDoor
open Go.RowKit

section
variable {w w' : World} {g : Nat} {t : TypeId} {cs : Array Value}
theorem Blk.cellP {a b : Value} (h : Blk w g t #[a, b]) : w.cell? ⟨g, 0, none⟩ = some a ∧ w.cell? ⟨g, 1, none⟩ = some b := ⟨h.cell 0, h.cell 1⟩
theorem Blk.frozenP (h : Blk w g t cs) : w.frozen? ⟨g, 0, none⟩ = false ∧ w.frozen? ⟨g, 1, none⟩ = false := ⟨h.frozen 0, h.frozen 1⟩
theorem Blk.setP {x y : Value} (h : Blk w g t #[x, y]) (a b : Value) : Blk ((w.setCell ⟨g, 0, none⟩ a).setCell ⟨g, 1, none⟩ b) g t #[a, b] := by
  simpa using (h.set_ 0 a).set_ 1 b
theorem below_setP {B R : Nat} (h : Below B w w') (hB : B ≤ R) (a b : Value) : Below B w ((w'.setCell ⟨R, 0, none⟩ a).setCell ⟨R, 1, none⟩ b) :=
  (h.setCell (p := ⟨R, 0, none⟩) hB a).setCell (p := ⟨R, 1, none⟩) hB b
end

def OffRet (g g' : Gd) (w : World) (e : Ending) (w' : World) : Prop :=
  ∃ r, OffR g g' r ∧ e = .returned (.tuple #[.agg #[.int .i64 r.1.1, .int .i64 r.1.2], .int .i64 r.2]) ∧ Below w.heap.size w w'
theorem offRet_bad {g g' : Gd} {k : Int} {w w' : World} (h : both2 g g' = k) (hk : k ≠ 0) (hb : Below w.heap.size w w') : OffRet g g' w (.returned (.tuple #[.agg #[.int .i64 0, .int .i64 0], .int .i64 k])) w' :=
  ⟨((0, 0), k), .inl ⟨by rw [h]; exact hk, by rw [h]⟩, rfl, hb⟩
theorem offRet_some {a b a' b' x y : Nat} {bs bs' : List Bool} {w w' : World} (h : both2 ⟨a, b, bs⟩ ⟨a', b', bs'⟩ = 0) (hi : IsOff a b bs a' b' bs' x y) (hb : Below w.heap.size w w') :
    OffRet ⟨a, b, bs⟩ ⟨a', b', bs'⟩ w (.returned (.tuple #[.agg #[.int .i64 x, .int .i64 y], .int .i64 0])) w' :=
  ⟨((x, y), 0), .inr (.inl ⟨h, x, y, by simpa using hi, rfl⟩), rfl, hb⟩
theorem offRet_none {a b a' b' : Nat} {bs bs' : List Bool} {w w' : World} (h : both2 ⟨a, b, bs⟩ ⟨a', b', bs'⟩ = 0) (hi : ∀ x y : Nat, ¬ Meets a b bs a' b' bs' x y) (hb : Below w.heap.size w w') :
    OffRet ⟨a, b, bs⟩ ⟨a', b', bs'⟩ w (.returned (.tuple #[.agg #[.int .i64 0, .int .i64 0], .int .i64 6])) w' :=
  ⟨((0, 0), 6), .inr (.inr ⟨h, by simpa using hi, rfl⟩), rfl, hb⟩
theorem both2_ok {a b a' b' : Nat} {bs bs' : List Bool} (h : chkG ⟨a, b, bs⟩ = 0) (h' : chkG ⟨a', b', bs'⟩ = 0) : both2 ⟨a, b, bs⟩ ⟨a', b', bs'⟩ = 0 := by
  unfold both2; rw [if_neg (by omega)]; exact h'

/-! The look at one cell, number by number. -/
section
variable (a b : Nat) (bs : List Bool) (a' b' : Nat) (bs' : List Bool) (A x y : Nat)
def eqc (j : Nat) : Bool := pl a b bs ((j % A : Nat) : Int) ((j / A : Nat) : Int) == pl a' b' bs' (((j % A : Nat) : Int) + (x : Int)) (((j / A : Nat) : Int) + (y : Int))
def allc (i : Nat) : Bool := (List.range i).all (eqc a b bs a' b' bs' A x y)
theorem allc_zero : allc a b bs a' b' bs' A x y 0 = true := by simp [allc]
theorem allc_succ (i : Nat) : allc a b bs a' b' bs' A x y (i + 1) = (allc a b bs a' b' bs' A x y i && eqc a b bs a' b' bs' A x y i) := by simp [allc, List.range_succ]
end
theorem allc_iff {a b a' b' A B C x y : Nat} {bs bs' : List Bool} (ha : 1 ≤ a) (hb : 1 ≤ b) (ha' : 1 ≤ a') (hb' : 1 ≤ b') (h : IsLat a b bs A B C) (h' : IsLat a' b' bs' A B C) :
    allc a b bs a' b' bs' A x y (A * C) = true ↔ Meets a b bs a' b' bs' x y := by
  unfold allc
  rw [List.all_eq_true]
  constructor
  · intro hall
    refine meets_cell ha hb ha' hb' h h' fun u v hu hv => ?_
    have k := hall (v * A + u) (by
      rw [List.mem_range, Nat.mul_comm A C]
      exact Pl.cell_lt hu hv)
    unfold eqc at k
    have hA : 0 < A := by omega
    rw [show (v * A + u) % A = u by rw [Nat.mul_add_mod_self_right, Nat.mod_eq_of_lt hu], show (v * A + u) / A = v by rw [Nat.add_comm, Nat.add_mul_div_right _ _ hA, Nat.div_eq_of_lt hu, Nat.zero_add], beq_iff_eq] at k
    exact k
  · intro hm j _
    unfold eqc
    rw [beq_iff_eq]
    exact hm _ _
end Go.Proofs.YtliibficmdomjaaDoor
/- The type bool's entry; a function value that gives cells. -/
namespace Go.Proofs.YtliibficmdomjaaDoor
open Go.RowKit

/-- A function value that gives the cell (x, y) of a table, whatever has been made since w. -/
def Gives (f : FuncId) (caps : Array Value) (a b : Nat) (F : Nat → Nat → Bool) (w : World) : Prop :=
  ∀ (w' : World) (x y : Nat), Below w.heap.size w w' → x < a → y < b →
    Calls Tryd.prog f (#[.int .i64 x, .int .i64 y] ++ caps) w' fun e w'' => e = .returned (.bool (F x y)) ∧ Below w'.heap.size w' w''

theorem Tryd.infoB : (Tryd.prog.info? 4).map (fun i => (i.zero, i.size, i.bytes)) = some (some (.bool false), 1, 1) := by kernel_rfl

end Go.Proofs.YtliibficmdomjaaDoor
/- The reference's Check of layer 1 gives the error 'chk', for any grid. -/
namespace Go.Proofs.YtliibficmdomjaaDoor
open Go.RowKit

theorem rcheck_any (W H : Int) (A : Option Addr) (n c : Nat) (w : World) :
    Calls Tryd.prog 47 #[.agg #[.int .i64 W, .int .i64 H, .slice A n c]] w fun e w' => e = .returned (.int .i64 (chk W H n)) ∧ Below w.heap.size w w' := by
  by_cases hb : 64 < W ∨ 64 < H
  · go_enter Tryd.func47, Tryd.ntmps47
    go_wp2
    all_goals (go_ret; exact ⟨ret_i (chk_big hb).symm, (Below.refl _ _).alloc (Nat.le_refl _) _⟩)
  by_cases hs : W < 1 ∨ H < 1
  · have hW : W ≤ 64 := by omega
    have hH : H ≤ 64 := by omega
    go_enter Tryd.func47, Tryd.ntmps47
    go_wp2
    all_goals (go_ret; exact ⟨ret_i (chk_bad hW hH (by omega)).symm, (Below.refl _ _).alloc (Nat.le_refl _) _⟩)
  have hW : W ≤ 64 := by omega
  have hH : H ≤ 64 := by omega
  have hW1 : 1 ≤ W := by omega
  have hH1 : 1 ≤ H := by omega
  have hm := mul_wrap hW hH hW1 hH1
  by_cases hl : (n : Int) = W * H
  · have hl' : ((n : Int) != wrap64 (W * H)) = false := by rw [hm, bne_eq_false_iff_eq]; exact hl
    have HL := Lib.hid hl; clear hl
    have HM := Lib.hid hm; clear hm
    go_enter Tryd.func47, Tryd.ntmps47
    go_wp2
    all_goals (go_ret; exact ⟨ret_i (chk_ok hW hH hW1 hH1 HL.out).symm, (Below.refl _ _).alloc (Nat.le_refl _) _⟩)
  · have hl' : ((n : Int) != wrap64 (W * H)) = true := by rw [hm, bne_iff_ne]; exact hl
    have HL := Lib.hid hl; clear hl
    have HM := Lib.hid hm; clear hm
    go_enter Tryd.func47, Tryd.ntmps47
    go_wp2
    all_goals (go_ret; exact ⟨ret_i (chk_bad hW hH (.inr (.inr HL.out))).symm, (Below.refl _ _).alloc (Nat.le_refl _) _⟩)
end Go.Proofs.YtliibficmdomjaaDoor
