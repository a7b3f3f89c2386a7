/- Plain data of a grid, the error that Check gives, and what the operations of layer 1 make of grids. No program in sight. -/
import Derived.Test.YtfjdlbilnoojkaaPlainz
import Derived.Test.YtfjdlbilnoojkaaLibz
namespace Go.Proofs.Ytfjdlbilnoojkaa
open Go.RowKit

/-- The error of a grid with sides W and H and n cells. -/
def chk (W H : Int) (n : Nat) : Int := if 64 < W ∨ 64 < H then 4 else if W < 1 ∨ H < 1 ∨ (n : Int) ≠ W * H then 8 else 0

theorem chk_big {W H : Int} {n : Nat} (h : 64 < W ∨ 64 < H) : chk W H n = 4 := by unfold chk; rw [if_pos h]
theorem chk_bad {W H : Int} {n : Nat} (h1 : W ≤ 64) (h2 : H ≤ 64) (h : W < 1 ∨ H < 1 ∨ (n : Int) ≠ W * H) : chk W H n = 8 := by
  unfold chk; rw [if_neg (by omega), if_pos h]
theorem chk_ok {W H : Int} {n : Nat} (h1 : W ≤ 64) (h2 : H ≤ 64) (h3 : 1 ≤ W) (h4 : 1 ≤ H) (h : (n : Int) = W * H) : chk W H n = 0 := by
  unfold chk; rw [if_neg (by omega), if_neg (by omega)]
/-- A grid without an error has sides from 1 to 64, and as many cells. -/
theorem chk_zero {W H : Int} {n : Nat} (h : chk W H n = 0) : ∃ a b : Nat, W = (a : Int) ∧ H = (b : Int) ∧ 1 ≤ a ∧ a ≤ 64 ∧ 1 ≤ b ∧ b ≤ 64 ∧ n = b * a := by
  unfold chk at h
  split at h
  · omega
  · split at h
    · omega
    · rename_i h1 h2
      have e : (n : Int) = W * H := by
        rcases Decidable.em ((n : Int) = W * H) with e | e
        · exact e
        · exact absurd (Or.inr (Or.inr e)) h2
      refine ⟨W.toNat, H.toNat, by omega, by omega, by omega, by omega, by omega, by omega, ?_⟩
      have e1 : W = (W.toNat : Int) := by omega
      have e2 : H = (H.toNat : Int) := by omega
      rw [e1, e2, ← Int.natCast_mul] at e
      rw [Nat.mul_comm]
      exact_mod_cast e
theorem mul_wrap {W H : Int} (h1 : W ≤ 64) (h2 : H ≤ 64) (h3 : 1 ≤ W) (h4 : 1 ≤ H) : wrap64 (W * H) = W * H := by
  have a : 0 ≤ W * H := Int.mul_nonneg (by omega) (by omega)
  have b : W * H ≤ 64 * 64 := Int.mul_le_mul h1 h2 (by omega) (by omega)
  exact IntWalk.wrap64_in _ ⟨by omega, by omega⟩

/-- A grid, as plain data. -/
structure Gd where
  w : Int
  h : Int
  bits : List Bool
def Gd.zero : Gd := ⟨0, 0, []⟩
def chkG (g : Gd) : Int := chk g.w g.h g.bits.length

/-- What a function that hands back a grid and an error gives: the grid in new memory. -/
def RetG (r : Gd × Int) (w : World) (e : Ending) (w' : World) : Prop :=
  ∃ A n c, e = .returned (.tuple #[.agg #[.int .i64 r.1.w, .int .i64 r.1.h, .slice A n c], .int .i64 r.2]) ∧ w'.ownsRow w.heap.size 4 1 (.slice A n c) n (r.1.bits.map Value.bool) ∧ Below w.heap.size w w'

/-- What a function that hands back a grid alone gives. -/
def RetT (g : Gd) (w : World) (e : Ending) (w' : World) : Prop :=
  ∃ A n c, e = .returned (.agg #[.int .i64 g.w, .int .i64 g.h, .slice A n c]) ∧ w'.ownsRow w.heap.size 4 1 (.slice A n c) n (g.bits.map Value.bool) ∧ Below w.heap.size w w'

def notG (g : Gd) : Gd × Int := if chkG g = 0 then (⟨g.w, g.h, g.bits.map fun b => !b⟩, 0) else (Gd.zero, chkG g)
theorem notG_ok {g : Gd} (h : chkG g = 0) : notG g = (⟨g.w, g.h, g.bits.map fun b => !b⟩, 0) := if_pos h
theorem notG_bad {g : Gd} (h : chkG g ≠ 0) : notG g = (Gd.zero, chkG g) := if_neg h

/-- The error of two grids of the same size. -/
def bothG (a b : Gd) : Int := if chkG a ≠ 0 then chkG a else if chkG b ≠ 0 then chkG b else if a.w ≠ b.w ∨ a.h ≠ b.h then 2 else 0
/-- The error of two grids, whatever their sizes. -/
def both2 (a b : Gd) : Int := if chkG a ≠ 0 then chkG a else chkG b
def joinG (p : Bool → Bool → Bool) (a b : Gd) : Gd × Int := if bothG a b = 0 then (⟨a.w, a.h, List.zipWith p a.bits b.bits⟩, 0) else (Gd.zero, bothG a b)
theorem joinG_ok {p : Bool → Bool → Bool} {a b : Gd} (h : bothG a b = 0) : joinG p a b = (⟨a.w, a.h, List.zipWith p a.bits b.bits⟩, 0) := if_pos h
theorem joinG_bad {p : Bool → Bool → Bool} {a b : Gd} (h : bothG a b ≠ 0) : joinG p a b = (Gd.zero, bothG a b) := if_neg h
theorem bothG_zero {a b : Gd} (h : bothG a b = 0) : chkG a = 0 ∧ chkG b = 0 ∧ a.w = b.w ∧ a.h = b.h := by
  unfold bothG at h
  split at h
  · contradiction
  · split at h
    · contradiction
    · split at h
      · omega
      · rename_i h1 h2 h3
        exact ⟨by omega, by omega, by omega, by omega⟩

theorem chkG_small {g : Gd} (h : chkG g = 0) : g.bits.length ≤ 4096 := by
  unfold chkG at h
  obtain ⟨a, b, _, _, _, h1, _, h2, h3⟩ := chk_zero h
  rw [h3]
  exact Nat.mul_le_mul h2 h1
theorem notG_small (g : Gd) : (notG g).1.bits.length ≤ 4096 := by
  by_cases h : chkG g = 0
  · rw [notG_ok h]; simpa using chkG_small h
  · rw [notG_bad h]; simp [Gd.zero]
theorem joinG_small (p : Bool → Bool → Bool) (a b : Gd) : (joinG p a b).1.bits.length ≤ 4096 := by
  by_cases h : bothG a b = 0
  · rw [joinG_ok h]
    have := chkG_small (bothG_zero h).1
    simp; omega
  · rw [joinG_bad h]; simp [Gd.zero]

end Go.Proofs.Ytfjdlbilnoojkaa
