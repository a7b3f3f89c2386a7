/- The runs of a row, cell by cell and run by run. No program in sight. -/
import Derived.Test.YtbgekiifffnalaaDoorRetL
namespace Go.Proofs.YtbgekiifffnalaaDoor
open Go.RowKit

/-- The last number, one more. -/
def incL (l : List Int) : List Int := l.set (l.length - 1) (l.getD (l.length - 1) 0 + 1)
theorem incL_snoc (l : List Int) (z : Int) : incL (l ++ [z]) = l ++ [z + 1] := by
  unfold incL
  have h1 : (l ++ [z]).length - 1 = l.length := by simp
  rw [h1]
  simp [List.getD]
/-- A run begins in this cell. -/
def beginsB (l : List Bool) (k : Nat) : Bool := decide (k = 0) || (l.getD k false != l.getD (k - 1) false)
def runsK (l : List Bool) : Nat → List Int
  | 0 => []
  | k + 1 => incL (runsK l k ++ if beginsB l k then [0] else [])
theorem runsK_yes {l : List Bool} {k : Nat} (h : beginsB l k = true) : runsK l (k + 1) = runsK l k ++ [1] := by
  show incL (runsK l k ++ if beginsB l k then [0] else []) = _
  rw [h, if_pos rfl, incL_snoc]
  rfl
theorem runsK_no {l : List Bool} {k : Nat} (h : beginsB l k = false) : runsK l (k + 1) = incL (runsK l k) := by
  show incL (runsK l k ++ if beginsB l k then [0] else []) = _
  rw [h]
  simp
theorem runsK_pos {l : List Bool} : ∀ {k : Nat}, 1 ≤ k → 1 ≤ (runsK l k).length
  | 0, h => absurd h (by omega)
  | k + 1, _ => by
    cases h : beginsB l k with
    | true => rw [runsK_yes h]; simp
    | false =>
      rw [runsK_no h]
      have hk : 1 ≤ k := by
        rcases Nat.eq_zero_or_pos k with h0 | h0
        · subst h0; simp [beginsB] at h
        · exact h0
      have := runsK_pos (l := l) hk
      simpa [incL] using this
theorem runsK_le (l : List Bool) : ∀ k : Nat, (runsK l k).length ≤ k
  | 0 => by simp [runsK]
  | k + 1 => by
    have := runsK_le l k
    cases h : beginsB l k with
    | true => rw [runsK_yes h]; simp; omega
    | false => rw [runsK_no h]; simp [incL]; omega
theorem runsK_bound (l : List Bool) : ∀ (k j : Nat), 0 ≤ (runsK l k).getD j 0 ∧ (runsK l k).getD j 0 ≤ (k : Int)
  | 0, j => by simp [runsK]
  | k + 1, j => by
    have ih := runsK_bound l k
    cases h : beginsB l k with
    | true =>
      rw [runsK_yes h]
      have h1 := ih j
      rcases Nat.lt_or_ge j (runsK l k).length with h2 | h2
      · rw [List.getD_eq_getElem?_getD, List.getElem?_append_left h2, ← List.getD_eq_getElem?_getD]
        omega
      · rw [List.getD_eq_getElem?_getD, List.getElem?_append_right h2]
        rcases Nat.eq_zero_or_pos (j - (runsK l k).length) with h3 | h3
        · rw [h3]; simp; omega
        · rw [List.getElem?_eq_none (by simp; omega)]; simp; omega
    | false =>
      rw [runsK_no h]
      unfold incL
      have h1 := ih j
      have h2 := ih ((runsK l k).length - 1)
      rw [List.getD_eq_getElem?_getD, List.getElem?_set]
      by_cases he : (runsK l k).length - 1 = j
      · rw [if_pos he]
        by_cases hl : (runsK l k).length - 1 < (runsK l k).length
        · rw [if_pos hl]; simp only [Option.getD_some]; omega
        · rw [if_neg hl]; simp; omega
      · rw [if_neg he, ← List.getD_eq_getElem?_getD]; omega
/-- A run of n cells. -/
theorem runsK_run {l : List Bool} {i : Nat} {up : Bool} (hb : beginsB l i = true) : ∀ n : Nat, 1 ≤ n → (∀ j, i ≤ j → j < i + n → l.getD j false = up) → runsK l (i + n) = runsK l i ++ [(n : Int)]
  | 0, h, _ => absurd h (by omega)
  | 1, _, _ => runsK_yes hb
  | n + 2, _, hall => by
    have h1 := runsK_run hb (n + 1) (by omega) (fun j h1 h2 => hall j h1 (by omega))
    have h2 : beginsB l (i + (n + 1)) = false := by
      unfold beginsB
      rw [hall (i + (n + 1)) (by omega) (by omega), hall (i + (n + 1) - 1) (by omega) (by omega)]
      simp
    have h3 := runsK_no h2
    rw [h1, incL_snoc] at h3
    have e : i + (n + 2) = i + (n + 1) + 1 := by omega
    rw [e, h3]
    congr 2
/-- The runs of a row, or an error. -/
def runsG (l : List Bool) : List Int × Int := if 64 < l.length then ([], 4) else if l.length < 2 ∨ l.getD 0 false = false ∨ l.getD (l.length - 1) false = true then ([], 8) else (runsK l l.length, 0)
theorem runsG_many {l : List Bool} (h : 64 < l.length) : runsG l = ([], 4) := if_pos h
theorem runsG_bad {l : List Bool} (h : l.length ≤ 64) (h2 : l.length < 2 ∨ l.getD 0 false = false ∨ l.getD (l.length - 1) false = true) : runsG l = ([], 8) := by unfold runsG; rw [if_neg (by omega), if_pos h2]
theorem runsG_ok {l : List Bool} (h : l.length ≤ 64) (h1 : 2 ≤ l.length) (h2 : l.getD 0 false = true) (h3 : l.getD (l.length - 1) false = false) : runsG l = (runsK l l.length, 0) := by
  unfold runsG
  rw [if_neg (by omega), if_neg]
  rintro (h4 | h4 | h4)
  · omega
  · rw [h2] at h4; cases h4
  · rw [h3] at h4; cases h4
end Go.Proofs.YtbgekiifffnalaaDoor
