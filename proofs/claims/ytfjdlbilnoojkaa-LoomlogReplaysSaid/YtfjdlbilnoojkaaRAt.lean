/- raddleref01.At: a cell's value. -/
import Derived.Test.YtfjdlbilnoojkaaInfoB
import Derived.Test.YtfjdlbilnoojkaaMvDef
import Derived.Laws.OwnMore
namespace Go.Proofs.Ytfjdlbilnoojkaa
open Go.RowKit

theorem at_any (a b x y : Nat) (l : List Bool) (H : Int) (A : Option Addr) (c : Nat) (w : World) (ha : a ≤ 64) (hb : b ≤ 64) (hx : x < a) (hy : y < b) (hr : Rd w A (b * a) (l.map Value.bool)) :
    Calls Try.prog 47 #[.agg #[.int .i64 a, .int .i64 H, .slice A (b * a) c], .int .i64 x, .int .i64 y] w fun e w' => e = .returned (.bool (l.getD (y * a + x) false)) ∧ Below w.heap.size w w' := by
  have hbs : l.length = b * a := by simpa using hr.len
  have hlt := Pl.cell_lt (w := a) (h := b) hx hy
  have hG := Blk.new w 25 #[.int .i64 a, .int .i64 H, .slice A (b * a) c]
  have hr' := hr.alloc (.cells #[.int .i64 a, .int .i64 H, .slice A (b * a) c] 25)
  have hB : Below w.heap.size w (w.alloc (.cells #[.int .i64 a, .int .i64 H, .slice A (b * a) c] 25)) := (Below.refl _ _).alloc (Nat.le_refl _) _
  obtain ⟨i0, i1, i2⟩ := idx_bounds ha hb hx hy
  obtain ⟨bl, o, rfl, hbl, hc⟩ := hr'.at_ (by omega)
  have hcell := cell_read hbs hlt hc
  generalize l.getD (y * a + x) false = p at hcell ⊢
  obtain ⟨c0, c1, c2⟩ := hG.cell3
  clear hr hr' hc hG
  go_enter Try.func47, Try.ntmps47
  go_wp2
  go_ret
  exact ⟨rfl, hB⟩

theorem at_to {v : Bool} (a b x y : Nat) (l : List Bool) (H : Int) (A : Option Addr) (c : Nat) (w : World) (h : l.getD (y * a + x) false = v) (ha : a ≤ 64) (hb : b ≤ 64) (hx : x < a) (hy : y < b) (hr : Rd w A (b * a) (l.map Value.bool)) :
    Calls Try.prog 47 #[.agg #[.int .i64 a, .int .i64 H, .slice A (b * a) c], .int .i64 x, .int .i64 y] w fun e w' => e = .returned (.bool v) ∧ Below w.heap.size w w' := h ▸ at_any a b x y l H A c w ha hb hx hy hr

end Go.Proofs.Ytfjdlbilnoojkaa
