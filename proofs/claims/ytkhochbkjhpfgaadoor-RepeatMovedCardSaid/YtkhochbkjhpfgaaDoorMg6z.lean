/- Parts of the proof, in their order. -/
import Derived.Test.YtkhochbkjhpfgaaDoorMg4z
import Derived.Test.YtkhochbkjhpfgaaDoorMg3z
import Derived.Laws.OwnMore
import Derived.Test.YtkhochbkjhpfgaaDoorBuildz
import Derived.Deep.QuietTactic
import Derived.BigQuiet
/- raddleref01.At: a cell's value. -/
namespace Go.Proofs.YtkhochbkjhpfgaaDoor
open Go.RowKit

theorem at_any (a b x y : Nat) (l : List Bool) (H : Int) (A : Option Addr) (c : Nat) (w : World) (ha : a ≤ 64) (hb : b ≤ 64) (hx : x < a) (hy : y < b) (hr : Rd w A (b * a) (l.map Value.bool)) :
    Calls Tryd.prog 43 #[.agg #[.int .i64 a, .int .i64 H, .slice A (b * a) c], .int .i64 x, .int .i64 y] w fun e w' => e = .returned (.bool (l.getD (y * a + x) false)) ∧ Below w.heap.size w w' := by
  have hbs : l.length = b * a := by simpa using hr.len
  have hlt := Pl.cell_lt (w := a) (h := b) hx hy
  have hG := Blk.new w 33 #[.int .i64 a, .int .i64 H, .slice A (b * a) c]
  have hr' := hr.alloc (.cells #[.int .i64 a, .int .i64 H, .slice A (b * a) c] 33)
  have hB : Below w.heap.size w (w.alloc (.cells #[.int .i64 a, .int .i64 H, .slice A (b * a) c] 33)) := (Below.refl _ _).alloc (Nat.le_refl _) _
  obtain ⟨i0, i1, i2⟩ := idx_bounds ha hb hx hy
  obtain ⟨bl, o, rfl, hbl, hc⟩ := hr'.at_ (by omega)
  have hcell := cell_read hbs hlt hc
  generalize l.getD (y * a + x) false = p at hcell ⊢
  obtain ⟨c0, c1, c2⟩ := hG.cell3
  clear hr hr' hc hG
  go_enter Tryd.func43, Tryd.ntmps43
  go_wp2
  go_ret
  exact ⟨rfl, hB⟩

theorem at_to {v : Bool} (a b x y : Nat) (l : List Bool) (H : Int) (A : Option Addr) (c : Nat) (w : World) (h : l.getD (y * a + x) false = v) (ha : a ≤ 64) (hb : b ≤ 64) (hx : x < a) (hy : y < b) (hr : Rd w A (b * a) (l.map Value.bool)) :
    Calls Tryd.prog 43 #[.agg #[.int .i64 a, .int .i64 H, .slice A (b * a) c], .int .i64 x, .int .i64 y] w fun e w' => e = .returned (.bool v) ∧ Below w.heap.size w w' := h ▸ at_any a b x y l H A c w ha hb hx hy hr

end Go.Proofs.YtkhochbkjhpfgaaDoor
/- grid.around: the remainder of a step. -/
namespace Go.Proofs.YtkhochbkjhpfgaaDoor
open Go.RowKit

theorem around_any (a n : Int) (w : World) (hn : 1 ≤ n) (hn2 : n ≤ 1000000) :
    Calls Tryd.prog 37 #[.int .i64 a, .int .i64 n] w fun e w' => e = .returned (.int .i64 (a % n)) ∧ w' = w := by
  have h1 := Int.tmod_lt_of_pos a (show 0 < n by omega)
  have h2 := Int.lt_tmod_of_pos a (show 0 < n by omega)
  have h3 := Pl.tmod_pos a n (by omega)
  have H3 := Lib.hid h3
  clear h3
  by_cases ht : a.tmod n < 0
  all_goals
    go_enter Tryd.func37, Tryd.ntmps37
    go_wp2
    go_ret
    exact ⟨ret_i (by have := H3.out; first | (rw [if_pos ht] at this; exact this) | (rw [if_neg (by omega)] at this; exact this)), rfl⟩

end Go.Proofs.YtkhochbkjhpfgaaDoor
