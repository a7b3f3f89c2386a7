/- What Moves and Is of satin answer, in plain Lean. -/
import Derived.Test.YtbgekiifffnalaaDoorOf
import Derived.Test.YtbgekiifffnalaaDoorMoveA9
import Derived.Test.YtbgekiifffnalaaDoorCount
import Derived.Test.YtbgekiifffnalaaDoorMvDef
namespace Go.Proofs.YtbgekiifffnalaaDoor
open Go.RowKit

/-- The lattice, or an error. -/
theorem ofG_cases (g : Gd) : (chkG g ≠ 0 ∧ ofG g = ((0, 0, 0), chkG g)) ∨ ∃ (a b A B C : Nat) (bs : List Bool), g = ⟨a, b, bs⟩ ∧ chkG ⟨a, b, bs⟩ = 0 ∧ 1 ≤ a ∧ a ≤ 64 ∧ 1 ≤ b ∧ b ≤ 64 ∧ bs.length = b * a ∧ 1 ≤ A ∧ A ≤ a ∧ B < A ∧ 1 ≤ C ∧ C ≤ b ∧ ofG ⟨a, b, bs⟩ = (((A : Int), (B : Int), (C : Int)), 0) := by
  by_cases h : chkG g = 0
  · right
    obtain ⟨W, H, bs⟩ := g
    obtain ⟨a, b, h1, h2, h3, h4, h5, h6, h7⟩ := chk_zero h
    simp only at h1 h2 h7
    subst h1 h2
    have hl := lat_is (bs := bs) h3 h5
    exact ⟨a, b, _, _, _, bs, rfl, h, h3, h4, h5, h6, h7, hl.a1, hl.a2, hl.b1, hl.c1, hl.c2, ofG_ok h⟩
  · exact .inl ⟨h, ofG_bad h⟩
/-- The cells of the first pick, as far as the k-th. -/
def frow (bs : List Bool) (k : Nat) : List Bool := (List.range k).map fun i => bs.getD i false
theorem frow_succ (bs : List Bool) (k : Nat) : frow bs (k + 1) = frow bs k ++ [bs.getD k false] := by unfold frow; rw [List.range_succ]; simp
theorem part_frow {a b A : Nat} {bs : List Bool} (h : chkG ⟨a, b, bs⟩ = 0) (hA : 1 ≤ A) (hAa : A ≤ a) (hb : 1 ≤ b) : partG ⟨a, b, bs⟩ 0 0 (A : Int) 1 = (⟨(A : Int), 1, frow bs A⟩, 0) := by
  unfold partG
  rw [withChk_ok h, if_neg (by omega)]
  unfold tabG
  congr 2
  simp [Pl.tab_succ, Pl.tab_zero, frow]
theorem chk_frow {A : Nat} {bs : List Bool} (hA : 1 ≤ A) (hA2 : A ≤ 64) : chkG ⟨(A : Int), 1, frow bs A⟩ = 0 := by
  show chk (A : Int) 1 (frow bs A).length = 0
  exact chk_ok (by omega) (by omega) (by omega) (by omega) (by simp [frow])
def movesG (g : Gd) : List Int × Int := if (ofG g).2 ≠ 0 then ([], (ofG g).2) else if (ofG g).1.2.2 = 1 then ([(ofG g).1.2.1], 0) else ([], 0)
def satG (g : Gd) : (Int × Int × Bool) × Int :=
  if (ofG g).2 ≠ 0 then ((0, 0, false), (ofG g).2)
  else if (ofG g).1.2.2 = 1 ∧ moveB (ofG g).1.1 (ofG g).1.2.1 = true ∧ (ups (frow g.bits (ofG g).1.1.toNat) = 1 ∨ ((ups (frow g.bits (ofG g).1.1.toNat) : Nat) : Int) = (ofG g).1.1 - 1)
  then (((ofG g).1.1, (ofG g).1.2.1, decide (ups (frow g.bits (ofG g).1.1.toNat) = 1)), 0) else ((0, 0, false), 6)
section
variable {g : Gd} {t : Int} {A B C : Nat}
theorem movesG_bad (h : ofG g = ((0, 0, 0), t)) (ht : t ≠ 0) : movesG g = ([], t) := by unfold movesG; rw [h, if_pos ht]
theorem movesG_no (h : ofG g = (((A : Int), (B : Int), (C : Int)), 0)) (hC : C ≠ 1) : movesG g = ([], 0) := by unfold movesG; rw [h, if_neg (by simp), if_neg (by simp only; omega)]
theorem movesG_yes (h : ofG g = (((A : Int), (B : Int), (C : Int)), 0)) (hC : C = 1) : movesG g = ([(B : Int)], 0) := by unfold movesG; rw [h, if_neg (by simp), if_pos (by simp only; omega)]
theorem satG_bad (h : ofG g = ((0, 0, 0), t)) (ht : t ≠ 0) : satG g = ((0, 0, false), t) := by unfold satG; rw [h, if_pos ht]
theorem satG_no (h : ofG g = (((A : Int), (B : Int), (C : Int)), 0)) (hn : C ≠ 1 ∨ moveB A B = false ∨ (ups (frow g.bits A) ≠ 1 ∧ ((ups (frow g.bits A) : Nat) : Int) ≠ (A : Int) - 1)) : satG g = ((0, 0, false), 6) := by
  unfold satG
  rw [h]
  simp only [Int.toNat_natCast]
  rw [if_neg (by simp), if_neg]
  rintro ⟨h1, h2, h3⟩
  rcases hn with h4 | h4 | h4
  · omega
  · rw [h4] at h2; cases h2
  · exact h3.elim h4.1 h4.2
theorem satG_yes {u : Bool} (h : ofG g = (((A : Int), (B : Int), (C : Int)), 0)) (hC : C = 1) (hm : moveB A B = true) (hu : ups (frow g.bits A) = 1 ∨ ((ups (frow g.bits A) : Nat) : Int) = (A : Int) - 1) (he : decide (ups (frow g.bits A) = 1) = u) : satG g = (((A : Int), (B : Int), u), 0) := by
  unfold satG
  rw [h]
  simp only [Int.toNat_natCast]
  rw [if_neg (by simp), if_pos ⟨by omega, hm, hu⟩, he]
end
end Go.Proofs.YtbgekiifffnalaaDoor
