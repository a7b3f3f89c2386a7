/- A list that is filled column by column. No program in sight. -/
import Derived.Test.YtefeghpglacghaaPlainz
namespace Go.Proofs.Ytefeghpglacghaa
namespace Pl
/-- Of the W columns of H cells each, the first x are filled, and y cells of the next one; the cell (x, y) lies at place p x y. -/
structure Fill {α : Type} (n H : Nat) (p : Nat → Nat → Nat) (F : Nat → Nat → α) (l : List α) (x y : Nat) : Prop where
  len : l.length = n
  get : ∀ x' y', y' < H → (x' < x ∨ x' = x ∧ y' < y) → l[p x' y']? = some (F x' y')
section
variable {α : Type} {n W H x y : Nat} {p : Nat → Nat → Nat} {F : Nat → Nat → α} {l : List α}
theorem Fill.start (h : l.length = n) : Fill n H p F l 0 0 := ⟨h, fun _ _ _ h => by omega⟩
theorem Fill.set (h : Fill n H p F l x y) (hx : x < W) (hy : y < H) (hp : p x y < n) (hi : ∀ x' y', x' < W → y' < H → p x y = p x' y' → x = x' ∧ y = y') {u : α} (hu : u = F x y) : Fill n H p F (l.set (p x y) u) x (y + 1) := by
  subst hu
  refine ⟨by rw [List.length_set]; exact h.len, fun x' y' hy' hlt => ?_⟩
  rw [List.getElem?_set]
  by_cases e : p x y = p x' y'
  · obtain ⟨rfl, rfl⟩ := hi x' y' (by omega) hy' e
    rw [if_pos rfl, if_pos (by rw [h.len]; exact hp)]
  · rw [if_neg e]
    refine h.get x' y' hy' ?_
    rcases hlt with h1 | ⟨h1, h2⟩
    · exact .inl h1
    · refine .inr ⟨h1, ?_⟩
      subst h1
      rcases Nat.lt_or_ge y' y with h3 | h3
      · exact h3
      · obtain rfl : y' = y := by omega
        exact absurd rfl e
theorem Fill.col (h : Fill n H p F l x H) : Fill n H p F l (x + 1) 0 :=
  ⟨h.len, fun x' y' hy' hlt => h.get x' y' hy' (by omega)⟩
theorem Fill.tab_ {l : List α} (h : Fill (H * W) H (fun x y => y * W + x) F l W 0) : l = tab W H F :=
  tab_ext h.len fun x y hx hy => h.get x y hy (.inl hx)
end
end Pl
end Go.Proofs.Ytefeghpglacghaa
