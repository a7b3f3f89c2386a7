/- A range over a function: what a round keeps; the elements that have come. Nothing here names a function of the program. -/
import Derived.RangeFuncNested
import Derived.RangeFuncBound
import Derived.RangeFuncCalls
import Derived.RangeFuncLeaves
import Derived.Test.YtfjdlbilnoojkaaLibz
namespace Go.Proofs.Ytfjdlbilnoojkaa
open Go.RowKit

/-- These blocks lie as they lay. -/
def KB (L : List Nat) (W W' : World) : Prop := ∀ k ∈ L, W'.heap[k]? = W.heap[k]?
theorem KB.refl (L : List Nat) (W : World) : KB L W W := fun _ _ => rfl
theorem KB.trans {L : List Nat} {A B C : World} (h : KB L A B) (k : KB L B C) : KB L A C := fun i hi => (k i hi).trans (h i hi)
theorem KB.blk {L : List Nat} {A B : World} (h : KB L A B) {g : Nat} {t : TypeId} {cs : Array Value} (hg : g ∈ L) (hb : Blk A g t cs) : Blk B g t cs := (h g hg).trans hb
theorem KB.below {L : List Nat} {n : Nat} {A B : World} (h : Below n A B) (hL : ∀ k ∈ L, k < n) : KB L A B := fun k hk => h.block k (hL k hk)
theorem kb_t {L : List Nat} {A B C : World} (h : KB L A B) (k : KB L B C) : KB L A C := h.trans k
theorem kb_b {L : List Nat} {w : World} (hL : ∀ k ∈ L, k < w.heap.size) (W : World) (l : Nat) (o o' : Obj) (hl : w.heap.size ≤ l) (_ : W.heap[l]? = some o) (_ : o.isCells = false) (_ : o.isWalk = false) : KB L W (W.putObj l o') :=
  fun k hk => World.putObj_heap_other (by have := hL k hk; omega)

/-- The first k of n. -/
def firstF (n k : Nat) : List (Fin n) := (List.finRange n).take k
theorem firstF_length {n k : Nat} (h : k ≤ n) : (firstF n k).length = k := by simp [firstF, h]
theorem firstF_succ {n k : Nat} (h : k < n) : firstF n (k + 1) = firstF n k ++ [⟨k, h⟩] := by
  unfold firstF
  rw [List.take_add_one, List.getElem?_eq_getElem (by simpa using h)]
  simp
theorem firstF_all (n : Nat) (i : Nat) (h : i < n) : (⟨i, h⟩ : Fin n) ∈ firstF n n := by
  unfold firstF
  rw [List.take_of_length_le (by simp)]
  exact List.mem_finRange _
/-- What a function of the number gives at the first k. -/
theorem firstF_flat {α : Type} {n : Nat} (f : Nat → List α) (l : List (List α)) (hl : l.length = n) (hf : ∀ i, i < n → f i = l.getD i []) : ((firstF n n).flatMap fun i => f i.1) = l.flatten := by
  have : ∀ k, k ≤ n → ((firstF n k).flatMap fun i => f i.1) = (l.take k).flatten := by
    intro k
    induction k with
    | zero => intro _; simp [firstF]
    | succ k ih =>
      intro h
      rw [firstF_succ (by omega), List.flatMap_append, ih (by omega), List.take_add_one, List.getElem?_eq_getElem (by omega)]
      simp only [List.flatMap_cons, List.flatMap_nil, List.append_nil, Option.toList_some, List.flatten_append, List.flatten_cons, List.flatten_nil]
      rw [hf k (by omega), List.getD_eq_getElem?_getD, List.getElem?_eq_getElem (by omega)]
      rfl
  rw [this n (Nat.le_refl _), List.take_of_length_le (by omega)]
end Go.Proofs.Ytfjdlbilnoojkaa
