/- Parts of the proof, in their order. -/
import Derived.Test.YtefeghpglacghaaMg4z
import Derived.Test.YtefeghpglacghaaMg3z
import Derived.Laws.OwnMore
import Derived.Test.YtefeghpglacghaaPlainz
/- raddleref01.At: a cell's value. -/
namespace Go.Proofs.Ytefeghpglacghaa
open Go.RowKit

theorem at_any (a b x y : Nat) (l : List Bool) (H : Int) (A : Option Addr) (c : Nat) (w : World) (ha : a ≤ 64) (hb : b ≤ 64) (hx : x < a) (hy : y < b) (hr : Rd w A (b * a) (l.map Value.bool)) :
    Calls Try.prog 60 #[.agg #[.int .i64 a, .int .i64 H, .slice A (b * a) c], .int .i64 x, .int .i64 y] w fun e w' => e = .returned (.bool (l.getD (y * a + x) false)) ∧ Below w.heap.size w w' := by
  have hbs : l.length = b * a := by simpa using hr.len
  have hlt := Pl.cell_lt (w := a) (h := b) hx hy
  have hG := Blk.new w 40 #[.int .i64 a, .int .i64 H, .slice A (b * a) c]
  have hr' := hr.alloc (.cells #[.int .i64 a, .int .i64 H, .slice A (b * a) c] 40)
  have hB : Below w.heap.size w (w.alloc (.cells #[.int .i64 a, .int .i64 H, .slice A (b * a) c] 40)) := (Below.refl _ _).alloc (Nat.le_refl _) _
  obtain ⟨i0, i1, i2⟩ := idx_bounds ha hb hx hy
  obtain ⟨bl, o, rfl, hbl, hc⟩ := hr'.at_ (by omega)
  have hcell := cell_read hbs hlt hc
  generalize l.getD (y * a + x) false = p at hcell ⊢
  obtain ⟨c0, c1, c2⟩ := hG.cell3
  clear hr hr' hc hG
  go_enter Try.func60, Try.ntmps60
  go_wp2
  go_ret
  exact ⟨rfl, hB⟩

theorem at_to {v : Bool} (a b x y : Nat) (l : List Bool) (H : Int) (A : Option Addr) (c : Nat) (w : World) (h : l.getD (y * a + x) false = v) (ha : a ≤ 64) (hb : b ≤ 64) (hx : x < a) (hy : y < b) (hr : Rd w A (b * a) (l.map Value.bool)) :
    Calls Try.prog 60 #[.agg #[.int .i64 a, .int .i64 H, .slice A (b * a) c], .int .i64 x, .int .i64 y] w fun e w' => e = .returned (.bool v) ∧ Below w.heap.size w w' := h ▸ at_any a b x y l H A c w ha hb hx hy hr

end Go.Proofs.Ytefeghpglacghaa
/- A list that is filled column by column. No program in sight. -/
namespace Go.Proofs.Ytefeghpglacghaa
namespace Pl
/-- Of the W columns of H cells each, the first x are filled, and y cells of the next one; the cell (x, y) lies at place p x y. -/
structure Fill {α : Type} (n H : Nat) (p : Nat → Nat → Nat) (F : Nat → Nat → α) (l : List α) (x y : Nat) : Prop where
  len : l.length = n
  get : ∀ x' y', y' < H → (x' < x ∨ x' = x ∧ y' < y) → l[p x' y']? = some (F x' y')
section
variable {α : Type} {n W H x y : Nat} {p : Nat → Nat → Nat} {F : Nat → Nat → α} {l : List α}
theorem Fill.start (h : l.length = n) : Fill n H p F l 0 0 := ⟨h, fun _ _ _ h => by omega⟩
theorem Fill.set (h : Fill n H p F l x y) (hx : x < W) (hy : y < H) (hp : p x y < n) (hi : ∀ x' y', x' < W → y' < H → p x y = p x' y' → x = x' ∧ y = y') {u : α} (hu : u = F x y) : Fill n H p F (l.set (p x y) u) x (y + 1) := by
  subst hu
  refine ⟨by rw [List.length_set]; exact h.len, fun x' y' hy' hlt => ?_⟩
  rw [List.getElem?_set]
  by_cases e : p x y = p x' y'
  · obtain ⟨rfl, rfl⟩ := hi x' y' (by omega) hy' e
    rw [if_pos rfl, if_pos (by rw [h.len]; exact hp)]
  · rw [if_neg e]
    refine h.get x' y' hy' ?_
    rcases hlt with h1 | ⟨h1, h2⟩
    · exact .inl h1
    · refine .inr ⟨h1, ?_⟩
      subst h1
      rcases Nat.lt_or_ge y' y with h3 | h3
      · exact h3
      · obtain rfl : y' = y := by omega
        exact absurd rfl e
theorem Fill.col (h : Fill n H p F l x H) : Fill n H p F l (x + 1) 0 :=
  ⟨h.len, fun x' y' hy' hlt => h.get x' y' hy' (by omega)⟩
theorem Fill.tab_ {l : List α} (h : Fill (H * W) H (fun x y => y * W + x) F l W 0) : l = tab W H F :=
  tab_ext h.len fun x y hx hy => h.get x y hy (.inl hx)
end
end Pl
end Go.Proofs.Ytefeghpglacghaa
