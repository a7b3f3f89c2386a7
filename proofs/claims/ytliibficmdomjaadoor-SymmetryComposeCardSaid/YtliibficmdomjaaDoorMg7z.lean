/- Parts of the proof, in their order. -/
import Derived.Test.YtliibficmdomjaaDoorMg5z
import Derived.Test.YtliibficmdomjaaDoorMg1z
import Derived.Test.YtliibficmdomjaaDoorMeetNz
import Derived.Test.YtliibficmdomjaaDoorMg6z
import Derived.Test.YtliibficmdomjaaDoorSplPz
import Derived.Test.YtliibficmdomjaaDoorRSamez
/- What both Offset functions answer, as a relation; the look at one cell; blocks of two places. -/
namespace Go.Proofs.YtliibficmdomjaaDoor
open Go.RowKit

section
variable {w w' : World} {g : Nat} {t : TypeId} {cs : Array Value}
theorem Blk.cellP {a b : Value} (h : Blk w g t #[a, b]) : w.cell? ⟨g, 0, none⟩ = some a ∧ w.cell? ⟨g, 1, none⟩ = some b := ⟨h.cell 0, h.cell 1⟩
theorem Blk.frozenP (h : Blk w g t cs) : w.frozen? ⟨g, 0, none⟩ = false ∧ w.frozen? ⟨g, 1, none⟩ = false := ⟨h.frozen 0, h.frozen 1⟩
theorem Blk.setP {x y : Value} (h : Blk w g t #[x, y]) (a b : Value) : Blk ((w.setCell ⟨g, 0, none⟩ a).setCell ⟨g, 1, none⟩ b) g t #[a, b] := by
  simpa using (h.set_ 0 a).set_ 1 b
theorem below_setP {B R : Nat} (h : Below B w w') (hB : B ≤ R) (a b : Value) : Below B w ((w'.setCell ⟨R, 0, none⟩ a).setCell ⟨R, 1, none⟩ b) :=
  (h.setCell (p := ⟨R, 0, none⟩) hB a).setCell (p := ⟨R, 1, none⟩) hB b
end

def OffRet (g g' : Gd) (w : World) (e : Ending) (w' : World) : Prop :=
  ∃ r, OffR g g' r ∧ e = .returned (.tuple #[.agg #[.int .i64 r.1.1, .int .i64 r.1.2], .int .i64 r.2]) ∧ Below w.heap.size w w'
theorem offRet_bad {g g' : Gd} {k : Int} {w w' : World} (h : both2 g g' = k) (hk : k ≠ 0) (hb : Below w.heap.size w w') : OffRet g g' w (.returned (.tuple #[.agg #[.int .i64 0, .int .i64 0], .int .i64 k])) w' :=
  ⟨((0, 0), k), .inl ⟨by rw [h]; exact hk, by rw [h]⟩, rfl, hb⟩
theorem offRet_some {a b a' b' x y : Nat} {bs bs' : List Bool} {w w' : World} (h : both2 ⟨a, b, bs⟩ ⟨a', b', bs'⟩ = 0) (hi : IsOff a b bs a' b' bs' x y) (hb : Below w.heap.size w w') :
    OffRet ⟨a, b, bs⟩ ⟨a', b', bs'⟩ w (.returned (.tuple #[.agg #[.int .i64 x, .int .i64 y], .int .i64 0])) w' :=
  ⟨((x, y), 0), .inr (.inl ⟨h, x, y, by simpa using hi, rfl⟩), rfl, hb⟩
theorem offRet_none {a b a' b' : Nat} {bs bs' : List Bool} {w w' : World} (h : both2 ⟨a, b, bs⟩ ⟨a', b', bs'⟩ = 0) (hi : ∀ x y : Nat, ¬ Meets a b bs a' b' bs' x y) (hb : Below w.heap.size w w') :
    OffRet ⟨a, b, bs⟩ ⟨a', b', bs'⟩ w (.returned (.tuple #[.agg #[.int .i64 0, .int .i64 0], .int .i64 6])) w' :=
  ⟨((0, 0), 6), .inr (.inr ⟨h, by simpa using hi, rfl⟩), rfl, hb⟩
theorem both2_ok {a b a' b' : Nat} {bs bs' : List Bool} (h : chkG ⟨a, b, bs⟩ = 0) (h' : chkG ⟨a', b', bs'⟩ = 0) : both2 ⟨a, b, bs⟩ ⟨a', b', bs'⟩ = 0 := by
  unfold both2; rw [if_neg (by omega)]; exact h'

/-! The look at one cell, number by number. -/
section
variable (a b : Nat) (bs : List Bool) (a' b' : Nat) (bs' : List Bool) (A x y : Nat)
def eqc (j : Nat) : Bool := pl a b bs ((j % A : Nat) : Int) ((j / A : Nat) : Int) == pl a' b' bs' (((j % A : Nat) : Int) + (x : Int)) (((j / A : Nat) : Int) + (y : Int))
def allc (i : Nat) : Bool := (List.range i).all (eqc a b bs a' b' bs' A x y)
theorem allc_zero : allc a b bs a' b' bs' A x y 0 = true := by simp [allc]
theorem allc_succ (i : Nat) : allc a b bs a' b' bs' A x y (i + 1) = (allc a b bs a' b' bs' A x y i && eqc a b bs a' b' bs' A x y i) := by simp [allc, List.range_succ]
end
theorem allc_iff {a b a' b' A B C x y : Nat} {bs bs' : List Bool} (ha : 1 ≤ a) (hb : 1 ≤ b) (ha' : 1 ≤ a') (hb' : 1 ≤ b') (h : IsLat a b bs A B C) (h' : IsLat a' b' bs' A B C) :
    allc a b bs a' b' bs' A x y (A * C) = true ↔ Meets a b bs a' b' bs' x y := by
  unfold allc
  rw [List.all_eq_true]
  constructor
  · intro hall
    refine meets_cell ha hb ha' hb' h h' fun u v hu hv => ?_
    have k := hall (v * A + u) (by
      rw [List.mem_range, Nat.mul_comm A C]
      exact Pl.cell_lt hu hv)
    unfold eqc at k
    have hA : 0 < A := by omega
    rw [show (v * A + u) % A = u by rw [Nat.mul_add_mod_self_right, Nat.mod_eq_of_lt hu], show (v * A + u) / A = v by rw [Nat.add_comm, Nat.add_mul_div_right _ _ hA, Nat.div_eq_of_lt hu, Nat.zero_add], beq_iff_eq] at k
    exact k
  · intro hm j _
    unfold eqc
    rw [beq_iff_eq]
    exact hm _ _
end Go.Proofs.YtliibficmdomjaaDoor
/- The examples of layer 7. No program in sight. -/
namespace Go.Proofs.YtliibficmdomjaaDoor
open Go.RowKit

def ckT : List UInt8 := [46, 120, 10, 120, 46, 10]
def twT : List UInt8 := [120, 46, 46, 120, 10, 46, 46, 120, 120, 10, 46, 120, 120, 46, 10, 120, 120, 46, 46, 10]
def fuT : List UInt8 := [120, 120, 10, 120, 120, 10]
def doT : List UInt8 := [46, 10]
def ckG : Gd := (parseG ckT).1
def twG : Gd := (parseG twT).1
def fuG : Gd := (parseG fuT).1
def doG : Gd := (parseG doT).1
theorem ck_p : parseG ckT = (ckG, 0) := Prod.ext rfl (by decide +kernel)
theorem tw_p : parseG twT = (twG, 0) := Prod.ext rfl (by decide +kernel)
theorem fu_p : parseG fuT = (fuG, 0) := Prod.ext rfl (by decide +kernel)
theorem do_p : parseG doT = (doG, 0) := Prod.ext rfl (by decide +kernel)
theorem ck_s : startG ckG = 0 := by decide +kernel
theorem tw_s : startG twG = 0 := by decide +kernel
theorem fu_s : startG fuG = 0 := by decide +kernel
theorem ck_l : alkL ckG ckG = [0, 1, 2, 3, 4, 5, 6, 7, 8, 9, 10, 11, 12, 13, 14, 15] := by decide +kernel
theorem tw_l : alkL twG twG = [0, 3, 4, 7, 8, 11, 12, 15] := by decide +kernel
theorem fu_l : leastG fuG = ((doG, 8), 0) := by
  have e : (sameG (leastG fuG).1.1 doG && decide ((leastG fuG).1.2 = 8 ∧ (leastG fuG).2 = 0)) = true := by decide +kernel
  rw [Bool.and_eq_true, sameG_iff] at e
  have e2 := of_decide_eq_true e.2
  exact Prod.ext (Prod.ext e.1 e2.1) e2.2
end Go.Proofs.YtliibficmdomjaaDoor
