/- Runs that are valid, and their row. No program in sight. -/
import Derived.Test.YtbgekiifffnalaaDoorRetL
namespace Go.Proofs.YtbgekiifffnalaaDoor
open Go.RowKit

def preS (runs : List Int) (k : Nat) : Int := (runs.take k).sum
theorem preS_zero (runs : List Int) : preS runs 0 = 0 := by simp [preS]
theorem preS_succ {runs : List Int} {k : Nat} (h : k < runs.length) : preS runs (k + 1) = preS runs k + runs.getD k 0 := by
  unfold preS
  rw [List.take_add_one, List.getElem?_eq_getElem h, List.getD_eq_getElem?_getD, List.getElem?_eq_getElem h, Option.toList_some, List.sum_append]
  congr 1
  simp
def okAt (runs : List Int) (k : Nat) : Bool := decide (1 ≤ runs.getD k 0 ∧ runs.getD k 0 ≤ 64 - preS runs k)
def validB (runs : List Int) : Bool := decide (2 ≤ runs.length ∧ runs.length ≤ 64 ∧ runs.length % 2 = 0) && (List.range runs.length).all (okAt runs)
theorem validB_no {runs : List Int} (h : ¬ (2 ≤ runs.length ∧ runs.length ≤ 64 ∧ runs.length % 2 = 0)) : validB runs = false := by unfold validB; rw [decide_eq_false h]; rfl
theorem validB_at {runs : List Int} {k : Nat} (hk : k < runs.length) (h : okAt runs k = false) : validB runs = false := by
  unfold validB
  rw [Bool.and_eq_false_iff]
  right
  rw [List.all_eq_false]
  exact ⟨k, by simpa using hk, by simp [h]⟩
theorem validB_yes {runs : List Int} (h : 2 ≤ runs.length ∧ runs.length ≤ 64 ∧ runs.length % 2 = 0) (h2 : ∀ k, k < runs.length → okAt runs k = true) : validB runs = true := by
  unfold validB
  rw [decide_eq_true h, Bool.true_and, List.all_eq_true]
  intro k hk
  exact h2 k (by simpa using hk)
theorem validB_open {runs : List Int} (h : validB runs = true) : (2 ≤ runs.length ∧ runs.length ≤ 64 ∧ runs.length % 2 = 0) ∧ ∀ k, k < runs.length → okAt runs k = true := by
  unfold validB at h
  rw [Bool.and_eq_true, decide_eq_true_eq, List.all_eq_true] at h
  exact ⟨h.1, fun k hk => h.2 k (by simpa using hk)⟩
theorem preS_bound {runs : List Int} : ∀ {k : Nat}, k ≤ runs.length → (∀ j, j < k → okAt runs j = true) → 0 ≤ preS runs k ∧ preS runs k ≤ 64
  | 0, _, _ => by rw [preS_zero]; omega
  | k + 1, hk, h => by
    have ih := preS_bound (runs := runs) (k := k) (by omega) (fun j hj => h j (by omega))
    have h1 := h k (by omega)
    unfold okAt at h1
    rw [decide_eq_true_eq] at h1
    rw [preS_succ (by omega)]
    omega
/-- The row of the first k runs. -/
def rowK (runs : List Int) (k : Nat) : List Bool := (List.range k).flatMap fun i => List.replicate (runs.getD i 0).toNat (decide (i % 2 = 0))
theorem rowK_zero (runs : List Int) : rowK runs 0 = [] := rfl
theorem rowK_succ (runs : List Int) (k : Nat) : rowK runs (k + 1) = rowK runs k ++ List.replicate (runs.getD k 0).toNat (decide (k % 2 = 0)) := by unfold rowK; rw [List.range_succ, List.flatMap_append]; simp
theorem rowK_length {runs : List Int} : ∀ {k : Nat}, k ≤ runs.length → (∀ j, j < k → okAt runs j = true) → ((rowK runs k).length : Int) = preS runs k
  | 0, _, _ => by rw [preS_zero]; rfl
  | k + 1, hk, h => by
    have ih := rowK_length (runs := runs) (k := k) (by omega) (fun j hj => h j (by omega))
    have h1 := h k (by omega)
    unfold okAt at h1
    rw [decide_eq_true_eq] at h1
    rw [preS_succ (by omega), rowK_succ, List.length_append, List.length_replicate]
    omega
end Go.Proofs.YtbgekiifffnalaaDoor
