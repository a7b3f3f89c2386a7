/- Faults of lifts in plain lists: what a fault makes of picks, and when it is true. Nothing here names a function of the program. -/
import Derived.Test.YtfjdlbilnoojkaaRunPz
namespace Go.Proofs.Ytfjdlbilnoojkaa
open Go.RowKit

/-- Picks with a fault. -/
def spoiltL (l : List (List Bool)) (q : Int) (k : Nat) (lift : List Bool) : List (List Bool) := if q = 1 then l.take k ++ l.drop (k + 1) else if q = 2 then l.take k ++ (l.getD k [] :: l.drop k) else if q = 3 then l.set k lift else l
theorem spoiltL_get {l : List (List Bool)} {k : Nat} (hk : k < l.length) (q : Int) (lift : List Bool) (z : Nat) :
    (spoiltL l q k lift)[z]? = if q = 1 then (if z < k then l[z]? else l[z + 1]?) else if q = 2 then (if z ≤ k then l[z]? else l[z - 1]?) else if q = 3 then (if z = k then some lift else l[z]?) else l[z]? := by
  unfold spoiltL
  split
  · split
    · rename_i h
      rw [List.getElem?_append_left (by rw [List.length_take]; omega), List.getElem?_take, if_pos h]
    · rename_i h
      rw [List.getElem?_append_right (by rw [List.length_take]; omega), List.length_take, List.getElem?_drop]
      congr 1
      omega
  · split
    · split
      · rename_i h
        by_cases hz : z = k
        · subst hz
          rw [List.getElem?_append_right (by rw [List.length_take]; omega), List.length_take, show z - min z l.length = 0 by omega, List.getElem?_cons_zero, List.getD_eq_getElem?_getD, List.getElem?_eq_getElem hk]
          rfl
        · rw [List.getElem?_append_left (by rw [List.length_take]; omega), List.getElem?_take, if_pos (by omega)]
      · rename_i h
        rw [List.getElem?_append_right (by rw [List.length_take]; omega), List.length_take, show z - min k l.length = (z - 1 - k) + 1 by omega, List.getElem?_cons_succ, List.getElem?_drop]
        congr 1
        omega
    · split
      · rw [List.getElem?_set]
        split
        · rename_i h
          subst h
          rw [if_pos rfl]
        · rename_i h
          rw [if_neg (fun e => h e.symm)]
      · rfl
theorem spoiltL_len {l : List (List Bool)} {k : Nat} (hk : k < l.length) (q : Int) (lift : List Bool) : (spoiltL l q k lift).length = if q = 1 then l.length - 1 else if q = 2 then l.length + 1 else l.length := by
  unfold spoiltL
  split
  · rw [List.length_append, List.length_take, List.length_drop]; omega
  · split
    · rw [List.length_append, List.length_take, List.length_cons, List.length_drop]; omega
    · split
      · rw [List.length_set]
      · rfl
theorem spoiltL_rows {N : Nat} {l : List (List Bool)} {k : Nat} {q : Int} {lift : List Bool} (h : RowsN N l) (hk : k < l.length) (hl : q = 3 → lift.length = N) : RowsN N (spoiltL l q k lift) := by
  intro r hr
  unfold spoiltL at hr
  split at hr
  · rcases List.mem_append.1 hr with h1 | h1
    · exact h r (List.mem_of_mem_take h1)
    · exact h r (List.mem_of_mem_drop h1)
  · split at hr
    · rcases List.mem_append.1 hr with h1 | h1
      · exact h r (List.mem_of_mem_take h1)
      · rcases List.mem_cons.1 h1 with h2 | h2
        · rw [h2, List.getD_eq_getElem?_getD, List.getElem?_eq_getElem hk]
          exact h _ (List.getElem_mem _)
        · exact h r (List.mem_of_mem_drop h2)
    · split at hr
      · rename_i h3
        rcases List.mem_or_eq_of_mem_set hr with h1 | h1
        · exact h r h1
        · rw [h1]; exact hl h3
      · exact h r hr
/-- The pick of want that stands at the place z of got. -/
def yOf (q : Int) (k : Int) (z : Nat) : Nat := if q = 1 ∧ k ≤ z then z + 1 else if q = 2 ∧ k < z then z - 1 else z
def moreOf (q : Int) : Int := if q = 1 then -1 else if q = 2 then 1 else 0
/-- A fault is true: as many picks, and all but the wrong one are equal. -/
def isR (a b : List (List Bool)) (q k : Int) : Prop := (b.length : Int) = a.length + moreOf q ∧ ∀ z : Nat, z < b.length → a.getD (yOf q k z) [] = b.getD z [] ∨ (q = 3 ∧ (z : Int) = k)
instance (a b : List (List Bool)) (q k : Int) : Decidable (isR a b q k) := by unfold isR; exact inferInstance
def liftAt (a b : List (List Bool)) (q : Int) (k : Nat) : List Bool := if q = 3 ∧ k < b.length then b.getD k [] else a.getD k []
/-- The fault makes got of want. -/
def faultAt (a b : List (List Bool)) (q : Int) (k : Nat) : Prop := spoiltL a q k (liftAt a b q k) = b
instance (a b : List (List Bool)) (q : Int) (k : Nat) : Decidable (faultAt a b q k) := by unfold faultAt; exact inferInstance
theorem getD_of {l : List (List Bool)} {z : Nat} (h : z < l.length) : l[z]? = some (l.getD z []) := by rw [List.getD_eq_getElem?_getD, List.getElem?_eq_getElem h]; rfl
theorem isR_none {a b : List (List Bool)} (k : Int) : isR a b 0 k ↔ a = b := by
  unfold isR moreOf yOf
  simp only [show ¬ ((0 : Int) = 1) by decide, show ¬ ((0 : Int) = 2) by decide, show ¬ ((0 : Int) = 3) by decide, false_and, if_false, or_false]
  constructor
  · rintro ⟨h1, h2⟩
    refine List.ext_getElem? fun z => ?_
    by_cases hz : z < b.length
    · rw [getD_of hz, getD_of (show z < a.length by omega), h2 z hz]
    · rw [List.getElem?_eq_none (by omega), List.getElem?_eq_none (by omega)]
  · rintro rfl
    exact ⟨by omega, fun z _ => rfl⟩
theorem isR_fault {a b : List (List Bool)} {q : Int} {k : Nat} (hk : k < a.length) (hq : q = 1 ∨ q = 2 ∨ q = 3) : isR a b q k ↔ faultAt a b q k := by
  unfold faultAt
  have hl := spoiltL_len hk q (liftAt a b q k)
  have hg := spoiltL_get hk q (liftAt a b q k)
  constructor
  · rintro ⟨h1, h2⟩
    refine List.ext_getElem? fun z => ?_
    rw [hg z]
    by_cases hz : z < b.length
    · rw [getD_of hz]
      have h3 := h2 z hz
      rcases hq with rfl | rfl | rfl
      · simp only [moreOf, yOf, true_and, if_true] at h1 h3 ⊢
        simp only [show ¬ ((1 : Int) = 3) by decide, false_and, or_false, show ¬ ((1 : Int) = 2) by decide, if_false] at h3
        split
        · rename_i h4
          rw [if_neg (by omega)] at h3
          rw [getD_of (by omega), h3]
        · rename_i h4
          rw [if_pos (by omega)] at h3
          rw [getD_of (by omega), h3]
      · simp only [moreOf, yOf, show ¬ ((2 : Int) = 1) by decide, show ¬ ((2 : Int) = 3) by decide, false_and, or_false, true_and, if_true, if_false] at h1 h3 ⊢
        split
        · rename_i h4
          rw [if_neg (by omega)] at h3
          rw [getD_of (by omega), h3]
        · rename_i h4
          rw [if_pos (by omega)] at h3
          rw [getD_of (by omega), h3]
      · simp only [moreOf, yOf, show ¬ ((3 : Int) = 1) by decide, show ¬ ((3 : Int) = 2) by decide, false_and, true_and, if_true, if_false] at h1 h3 ⊢
        split
        · rename_i h4
          subst h4
          unfold liftAt
          rw [if_pos ⟨rfl, hz⟩]
        · rename_i h4
          rcases h3 with h3 | h3
          · rw [getD_of (by omega), h3]
          · exact absurd (by omega) h4
    · rw [← hg z, List.getElem?_eq_none (l := b) (by omega), List.getElem?_eq_none]
      rw [hl]
      unfold moreOf at h1
      rcases hq with rfl | rfl | rfl <;> simp at h1 ⊢ <;> omega
  · intro h
    rw [h] at hl
    have h1 : (b.length : Int) = a.length + moreOf q := by
      unfold moreOf
      rcases hq with rfl | rfl | rfl <;> simp at hl ⊢ <;> omega
    refine ⟨h1, fun z hz => ?_⟩
    have h3 := hg z
    rw [h, getD_of hz] at h3
    rcases hq with rfl | rfl | rfl
    · simp only [moreOf, yOf, true_and, if_true] at h1 h3 ⊢
      simp only [show ¬ ((1 : Int) = 3) by decide, false_and, or_false, show ¬ ((1 : Int) = 2) by decide, if_false]
      split at h3
      · rename_i h4
        rw [getD_of (by omega)] at h3
        rw [if_neg (by omega)]
        exact (Option.some.inj h3).symm
      · rename_i h4
        rw [getD_of (by omega)] at h3
        rw [if_pos (by omega)]
        exact (Option.some.inj h3).symm
    · simp only [moreOf, yOf, show ¬ ((2 : Int) = 1) by decide, show ¬ ((2 : Int) = 3) by decide, false_and, or_false, true_and, if_true, if_false] at h1 h3 ⊢
      split at h3
      · rename_i h4
        rw [getD_of (by omega)] at h3
        rw [if_neg (by omega)]
        exact (Option.some.inj h3).symm
      · rename_i h4
        rw [getD_of (by omega)] at h3
        rw [if_pos (by omega)]
        exact (Option.some.inj h3).symm
    · simp only [moreOf, yOf, show ¬ ((3 : Int) = 1) by decide, show ¬ ((3 : Int) = 2) by decide, false_and, true_and, if_true, if_false] at h1 h3 ⊢
      split at h3
      · rename_i h4
        exact .inr (by omega)
      · rename_i h4
        rw [getD_of (by omega)] at h3
        exact .inl (Option.some.inj h3).symm
end Go.Proofs.Ytfjdlbilnoojkaa
