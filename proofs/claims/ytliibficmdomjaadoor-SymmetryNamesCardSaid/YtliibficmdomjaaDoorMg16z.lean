/- Parts of the proof, in their order. -/
import Derived.Test.YtliibficmdomjaaDoorRepQz
import Derived.Test.YtliibficmdomjaaDoorMg15z
import Derived.Test.YtliibficmdomjaaDoorRepPz
import Derived.Test.YtliibficmdomjaaDoorMg2z
/- The repeats of a grid and the steps of its lattice, as the law RepeatExactly asks. No program in sight. -/
namespace Go.Proofs.YtliibficmdomjaaDoor
open Go.RowKit

theorem inB_iff {A B C dx dy : Int} (hC : 1 ≤ C) : inB A B C dx dy = true ↔ ∃ p q : Int, dx = p * A + q * B ∧ dy = q * C := by
  unfold inB
  rw [decide_eq_true_eq]
  constructor
  · rintro ⟨h1, h2⟩
    have e1 := Int.mul_ediv_add_emod dy C
    rw [h1, Int.add_zero] at e1
    obtain ⟨p, hp⟩ := Int.dvd_of_emod_eq_zero h2
    refine ⟨p, dy / C, ?_, ?_⟩
    · rw [Int.mul_comm p A]; omega
    · rw [Int.mul_comm]; exact e1.symm
  · rintro ⟨p, q, rfl, rfl⟩
    refine ⟨Int.mul_emod_left _ _, ?_⟩
    rw [Int.mul_ediv_cancel _ (by omega), Int.add_sub_cancel, Int.mul_emod_left]
theorem inV_inB {A B C dx dy : Int} (hC : 1 ≤ C) : inV A B C dx dy = inB A B C dx dy := by
  rw [Bool.eq_iff_iff, inV_iff hC, inB_iff hC]
section
variable {a b : Nat} {bs : List Bool} {A B C : Nat} (ha : 1 ≤ a) (hb : 1 ≤ b) (h : IsLat a b bs A B C)
include ha hb h
theorem lat_inV (dx dy : Int) : repB a b bs dx dy = inV A B C dx dy := by
  have := h.c1
  rw [lat_iff ha hb h, inV_inB (by omega)]
theorem lat_w : (a : Int).tmod (A : Int) = 0 ∧ (a : Int) % (A : Int) = 0 := by
  have h1 : inV A B C (a : Int) 0 = true := by rw [← lat_inV ha hb h]; exact repB_w
  have hc := h.c1
  obtain ⟨p, q, e1, e2⟩ := (inV_iff (by omega)).1 h1
  have hq : q = 0 := by
    rcases Int.mul_eq_zero.1 e2.symm with e | e
    · exact e
    · omega
  subst hq
  rw [Int.zero_mul, Int.add_zero] at e1
  rw [e1]
  exact ⟨Int.mul_tmod_left _ _, Int.mul_emod_left _ _⟩
theorem lat_h : (b : Int).tmod (C : Int) = 0 ∧ (b : Int) % (C : Int) = 0 := by
  have h1 : inV A B C 0 (b : Int) = true := by rw [← lat_inV ha hb h]; exact repB_h
  have hc := h.c1
  obtain ⟨p, q, _, e2⟩ := (inV_iff (by omega)).1 h1
  rw [e2]
  exact ⟨Int.mul_tmod_left _ _, Int.mul_emod_left _ _⟩
end
/-- Whether two cells are alike, one step apart. -/
def eqE (a b : Nat) (bs : List Bool) (x y u v : Nat) : Bool := bs.getD (v * a + u) false == bs.getD ((v + y) % b * a + (u + x) % a) false
theorem rep_E {a b x y : Nat} {bs : List Bool} : repB a b bs (x : Int) (y : Int) = true ↔ ∀ u v, u < a → v < b → eqE a b bs x y u v = true := by
  rw [repB_iff]
  have e : ∀ u v : Nat, u < a → v < b → (pl a b bs ((u : Int) + (x : Int)) ((v : Int) + (y : Int)) = pl a b bs u v ↔ eqE a b bs x y u v = true) := fun u v hu hv => by
    unfold eqE
    rw [pl_nat hu hv, beq_iff_eq]
    unfold pl
    rw [← Int.natCast_add, ← Int.natCast_add, ← Int.natCast_emod, ← Int.natCast_emod, Int.toNat_natCast, Int.toNat_natCast]
    exact eq_comm
  exact ⟨fun h u v hu hv => (e u v hu hv).1 (h u v hu hv), fun h u v hu hv => (e u v hu hv).2 (h u v hu hv)⟩
theorem rep_E_no {a b x y u v : Nat} {bs : List Bool} (hu : u < a) (hv : v < b) (h : eqE a b bs x y u v = false) : repB a b bs (x : Int) (y : Int) = false := by
  cases hr : repB a b bs (x : Int) (y : Int) with
  | false => rfl
  | true =>
    have := rep_E.1 hr u v hu hv
    rw [h] at this
    cases this
end Go.Proofs.YtliibficmdomjaaDoor
/- The plain result of Spread: a cell, spread over the plane, as a grid. -/
namespace Go.Proofs.YtliibficmdomjaaDoor
open Go.RowKit

/-- A cell, spread over the plane, as a grid. -/
def spreadG (g : Gd) (B W H : Int) : Gd × Int := withChk g fun a b => if B < 0 ∨ (a : Int) ≤ B ∨ W < 1 ∨ H < 1 then errG 2 else if 64 < W ∨ 64 < H then errG 4 else
  tabG W.toNat H.toNat fun x y => pl a b g.bits ((x : Int) - ((y / b * B.toNat : Nat) : Int)) (y : Int)
end Go.Proofs.YtliibficmdomjaaDoor
/- The least cell of a grid. No program in sight. -/
namespace Go.Proofs.YtliibficmdomjaaDoor
open Go.RowKit

def cellG (g : Gd) : Gd × Int := withChk g fun a b => tabG (latA a b g.bits) (latC a b g.bits) fun x y => g.bits.getD (y * a + x) false
theorem cellG_ok {a b : Nat} {bs : List Bool} (h : chk a b bs.length = 0) : cellG ⟨a, b, bs⟩ = (⟨((latA a b bs : Nat) : Int), ((latC a b bs : Nat) : Int), Pl.tab (latA a b bs) (latC a b bs) fun x y => bs.getD (y * a + x) false⟩, 0) := withChk_ok h
end Go.Proofs.YtliibficmdomjaaDoor
