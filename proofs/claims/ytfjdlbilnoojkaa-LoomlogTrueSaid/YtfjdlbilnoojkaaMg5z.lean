/- Parts of the proof, in their order. -/
import Derived.Test.YtfjdlbilnoojkaaMlthx1z
import Derived.Outline
import Derived.IntWalk
import Derived.Test.YtfjdlbilnoojkaaMg3z
import Derived.Test.YtfjdlbilnoojkaaMvDefz
import Derived.Laws.OwnMore
/- math/bits.Mul of one and a small number. -/
namespace Go.Proofs.Ytfjdlbilnoojkaa
open Go.RowKit

theorem and32_all : ((List.range 65).all fun n => decide (bits .and .u64 (n : Int) 4294967295 = (n : Int))) = true := by decide +kernel
theorem and32_of {n : Nat} (h : n ≤ 64) : bits .and .u64 (n : Int) 4294967295 = (n : Int) := by
  have k := and32_all
  simp only [List.all_eq_true, List.mem_range, decide_eq_true_eq] at k
  exact k n (by omega)
theorem mul64_one (n : Nat) (w : World) (h : n ≤ 64) : Calls Try.prog 65 #[.int .u64 1, .int .u64 n] w fun e w' => e = .returned (.tuple #[.int .u64 0, .int .u64 n]) ∧ w' = w := by
  have a1 := and32_of h
  have a2 := and32_of (show 1 ≤ 64 by omega)
  have a3 := and32_of (show 0 ≤ 64 by omega)
  have b1 : bits .and .u64 1 4294967295 = 1 := a2
  have b0 : bits .and .u64 0 4294967295 = 0 := a3
  clear a2 a3
  have d1 : (n : Int) / 4294967296 = 0 := by omega
  go_enter Try.func65, Try.ntmps65
  go_wp2_with fail
  go_ret2
  exact ⟨by simp, rfl⟩
end Go.Proofs.Ytfjdlbilnoojkaa
/- raddleref01.At: a cell's value. -/
namespace Go.Proofs.Ytfjdlbilnoojkaa
open Go.RowKit

theorem at_any (a b x y : Nat) (l : List Bool) (H : Int) (A : Option Addr) (c : Nat) (w : World) (ha : a ≤ 64) (hb : b ≤ 64) (hx : x < a) (hy : y < b) (hr : Rd w A (b * a) (l.map Value.bool)) :
    Calls Try.prog 47 #[.agg #[.int .i64 a, .int .i64 H, .slice A (b * a) c], .int .i64 x, .int .i64 y] w fun e w' => e = .returned (.bool (l.getD (y * a + x) false)) ∧ Below w.heap.size w w' := by
  have hbs : l.length = b * a := by simpa using hr.len
  have hlt := Pl.cell_lt (w := a) (h := b) hx hy
  have hG := Blk.new w 25 #[.int .i64 a, .int .i64 H, .slice A (b * a) c]
  have hr' := hr.alloc (.cells #[.int .i64 a, .int .i64 H, .slice A (b * a) c] 25)
  have hB : Below w.heap.size w (w.alloc (.cells #[.int .i64 a, .int .i64 H, .slice A (b * a) c] 25)) := (Below.refl _ _).alloc (Nat.le_refl _) _
  obtain ⟨i0, i1, i2⟩ := idx_bounds ha hb hx hy
  obtain ⟨bl, o, rfl, hbl, hc⟩ := hr'.at_ (by omega)
  have hcell := cell_read hbs hlt hc
  generalize l.getD (y * a + x) false = p at hcell ⊢
  obtain ⟨c0, c1, c2⟩ := hG.cell3
  clear hr hr' hc hG
  go_enter Try.func47, Try.ntmps47
  go_wp2
  go_ret
  exact ⟨rfl, hB⟩

theorem at_to {v : Bool} (a b x y : Nat) (l : List Bool) (H : Int) (A : Option Addr) (c : Nat) (w : World) (h : l.getD (y * a + x) false = v) (ha : a ≤ 64) (hb : b ≤ 64) (hx : x < a) (hy : y < b) (hr : Rd w A (b * a) (l.map Value.bool)) :
    Calls Try.prog 47 #[.agg #[.int .i64 a, .int .i64 H, .slice A (b * a) c], .int .i64 x, .int .i64 y] w fun e w' => e = .returned (.bool v) ∧ Below w.heap.size w w' := h ▸ at_any a b x y l H A c w ha hb hx hy hr

end Go.Proofs.Ytfjdlbilnoojkaa
