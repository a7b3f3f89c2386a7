/- Cells that hold rows; what a fault makes of them. Nothing here names a function of the program. -/
import Derived.Test.YtfjdlbilnoojkaaLQz
import Derived.Test.YtfjdlbilnoojkaaFaultPz
namespace Go.Proofs.Ytfjdlbilnoojkaa
open Go.RowKit

/-- The cells xs hold the rows ls. -/
def RowsX (w : World) (xs : List Value) (ls : List (List Bool)) : Prop :=
  xs.length = ls.length ∧ ∀ (i : Nat) (l : List Bool), ls[i]? = some l → ∃ A c, xs[i]? = some (.slice A l.length c) ∧ Rd w A l.length (l.map Value.bool)
section
variable {w w' : World} {xs ys : List Value} {ls ms : List (List Bool)} {A : Option Addr} {n : Nat}
theorem LRB.open (h : LRB w A ls) : ∃ xs, Rd w A ls.length xs ∧ RowsX w xs ls := by
  obtain ⟨xs, hx, hr⟩ := h
  exact ⟨xs, hx, hx.1, hr⟩
theorem RowsX.lrb (h : RowsX w xs ls) (hr : Rd w A n xs) : LRB w A ls := by
  have hn : n = ls.length := by have h1 := hr.1; have h2 := h.1; omega
  subst hn
  exact ⟨xs, hr, h.2⟩
theorem RowsX.below (h : RowsX w xs ls) (hb : Below w.heap.size w w') : RowsX w' xs ls := ⟨h.1, fun i l hi => by
  obtain ⟨A, c, h1, h2⟩ := h.2 i l hi
  exact ⟨A, c, h1, h2.below hb⟩⟩
theorem RowsX.one (h : RowsX w xs ls) : ∀ u ∈ xs, u.oneCell' = true := by
  intro u hu
  obtain ⟨i, hi, rfl⟩ := List.getElem_of_mem hu
  have hil : i < ls.length := by have := h.1; omega
  obtain ⟨A, c, h1, _⟩ := h.2 i _ (List.getElem?_eq_getElem hil)
  rw [List.getElem?_eq_getElem hi] at h1
  injection h1 with h1
  rw [h1]; rfl
theorem RowsX.append (h : RowsX w xs ls) (k : RowsX w ys ms) : RowsX w (xs ++ ys) (ls ++ ms) := by
  have hl := h.1
  refine ⟨by rw [List.length_append, List.length_append, hl, k.1], fun i l hi => ?_⟩
  by_cases hlt : i < ls.length
  · rw [List.getElem?_append_left hlt] at hi
    rw [List.getElem?_append_left (by omega)]
    exact h.2 i l hi
  · rw [List.getElem?_append_right (by omega)] at hi
    rw [List.getElem?_append_right (by omega), hl]
    exact k.2 _ l hi
theorem RowsX.take (h : RowsX w xs ls) (k : Nat) : RowsX w (xs.take k) (ls.take k) := by
  refine ⟨by rw [List.length_take, List.length_take, h.1], fun i l hi => ?_⟩
  rw [List.getElem?_take] at hi ⊢
  split at hi
  · rename_i hik
    rw [if_pos hik]
    exact h.2 i l hi
  · simp at hi
theorem RowsX.drop (h : RowsX w xs ls) (k : Nat) : RowsX w (xs.drop k) (ls.drop k) := by
  refine ⟨by rw [List.length_drop, List.length_drop, h.1], fun i l hi => ?_⟩
  rw [List.getElem?_drop] at hi ⊢
  exact h.2 _ l hi
theorem RowsX.single {l : List Bool} {c : Nat} (h : Rd w A l.length (l.map Value.bool)) : RowsX w [.slice A l.length c] [l] := ⟨rfl, fun i l' hi => by
  match i, hi with
  | 0, hi => simp at hi; subst hi; exact ⟨A, c, rfl, h⟩⟩
theorem RowsX.at_ (h : RowsX w xs ls) {k : Nat} (hk : k < ls.length) : ∃ A c, xs[k]? = some (.slice A (ls.getD k []).length c) ∧ Rd w A (ls.getD k []).length ((ls.getD k []).map Value.bool) := h.2 k _ (getD_of hk)
theorem RowsX.set (h : RowsX w xs ls) (k : Nat) {l : List Bool} {c : Nat} (hr : Rd w A l.length (l.map Value.bool)) : RowsX w (xs.set k (.slice A l.length c)) (ls.set k l) := by
  refine ⟨by rw [List.length_set, List.length_set, h.1], fun i l' hi => ?_⟩
  rw [List.getElem?_set] at hi ⊢
  split at hi
  · rename_i hki
    rw [if_pos hki]
    split at hi
    · rename_i hlt
      injection hi with hi
      subst hi
      rw [if_pos (by have := h.1; omega)]
      exact ⟨A, c, rfl, hr⟩
    · simp at hi
  · rename_i hki
    rw [if_neg hki]
    exact h.2 i l' hi
/-- The cells around an element. -/
theorem around {α : Type} {xs : List α} {k : Nat} {x : α} (h : xs[k]? = some x) : xs = xs.take k ++ x :: xs.drop (k + 1) ∧ xs.drop k = x :: xs.drop (k + 1) := by
  obtain ⟨hk, e⟩ := List.getElem?_eq_some_iff.1 h
  have h1 : xs.drop k = x :: xs.drop (k + 1) := by rw [← e]; exact (List.drop_eq_getElem_cons hk)
  exact ⟨by rw [← h1, List.take_append_drop], h1⟩
theorem RowsX.del (h : RowsX w xs ls) (k : Nat) (lift : List Bool) : RowsX w (xs.take k ++ xs.drop (k + 1)) (spoiltL ls 1 k lift) := by
  unfold spoiltL
  rw [if_pos rfl]
  exact (h.take k).append (h.drop (k + 1))
theorem RowsX.ins (h : RowsX w xs ls) {k : Nat} (hk : k < ls.length) (lift : List Bool) {x : Value} (hx : xs[k]? = some x) : RowsX w (xs.take k ++ x :: xs.drop k) (spoiltL ls 2 k lift) := by
  unfold spoiltL
  rw [if_neg (by decide), if_pos rfl]
  obtain ⟨A, c, h1, h2⟩ := h.at_ hk
  rw [hx] at h1
  injection h1 with h1
  subst h1
  exact (h.take k).append ((RowsX.single h2).append (h.drop k))
theorem RowsX.put (h : RowsX w xs ls) (k : Nat) {l : List Bool} {c : Nat} (hr : Rd w A l.length (l.map Value.bool)) : RowsX w (xs.set k (.slice A l.length c)) (spoiltL ls 3 k l) := by
  unfold spoiltL
  rw [if_neg (by decide), if_neg (by decide), if_pos rfl]
  exact h.set k hr
end
end Go.Proofs.Ytfjdlbilnoojkaa
