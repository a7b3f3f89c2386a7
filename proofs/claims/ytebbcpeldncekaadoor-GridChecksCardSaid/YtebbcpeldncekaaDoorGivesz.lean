/- The closures of grid.Mirror, Tile and Part give cells of the grid; around and Mod give the remainder from 0 on (a divisor of at least 1). -/
import Derived.Test.YtebbcpeldncekaaDoorAroundz
import Derived.Test.YtebbcpeldncekaaDoorGTurnz
import Derived.Deep.QuietTactic
import Derived.BigQuiet
namespace Go.Proofs.YtebbcpeldncekaaDoor
open Go.RowKit

theorem mirror1_gives (a b Bg : Nat) (A : Option Addr) (c : Nat) (bs : List Bool) (w : World) (ha : a ≤ 64) (hb : b ≤ 64)
    (hg : Blk w Bg 24 #[.int .i64 a, .int .i64 b, .slice A (b * a) c]) (hr : Rd w A (b * a) (bs.map Value.bool)) :
    Gives 47 #[.pointer (some ⟨Bg, 0, none⟩)] a b (fun x y => bs.getD (y * a + (a - 1 - x)) false) w := by
  intro w' x y hbel hx hy
  show Calls _ _ _ _ fun e w'' => e = .returned (.bool (bs.getD (y * a + (a - 1 - x)) false)) ∧ Below w'.heap.size w' w''
  have hg' := hg.keep hbel
  have hr' := hr.below hbel
  have hbs : bs.length = b * a := by simpa using hr.len
  have hF : y * a + (a - 1 - x) < b * a := Pl.cell_lt (by omega) hy
  obtain ⟨i0, i1⟩ := mul_bound (p := (y : Int)) (q := (a : Int)) (by omega) (by omega) (by omega) (by omega)
  have hi : ((y : Int) * (a : Int) + (a : Int) - 1 - (x : Int)) = ((y * a + (a - 1 - x) : Nat) : Int) := by
    rw [Int.natCast_add, Int.natCast_mul]; omega
  have hlt := hF
  obtain ⟨bl, o, rfl, hbl, hc⟩ := hr'.at_ (by omega)
  have hcell := cell_read hbs hlt hc
  obtain ⟨c0, c1, c2⟩ := hg'.cell3
  clear hg hr hg' hr' hc hF hbs
  go_enter Tryd.func47, Tryd.ntmps47
  go_wp2
  go_ret
  exact ⟨rfl, Below.refl _ _⟩

theorem mirror2_gives (a b Bg : Nat) (A : Option Addr) (c : Nat) (bs : List Bool) (w : World) (ha : a ≤ 64) (hb : b ≤ 64)
    (hg : Blk w Bg 24 #[.int .i64 a, .int .i64 b, .slice A (b * a) c]) (hr : Rd w A (b * a) (bs.map Value.bool)) :
    Gives 48 #[.pointer (some ⟨Bg, 0, none⟩)] a b (fun x y => bs.getD ((b - 1 - y) * a + x) false) w := by
  intro w' x y hbel hx hy
  show Calls _ _ _ _ fun e w'' => e = .returned (.bool (bs.getD ((b - 1 - y) * a + x) false)) ∧ Below w'.heap.size w' w''
  have hg' := hg.keep hbel
  have hr' := hr.below hbel
  have hbs : bs.length = b * a := by simpa using hr.len
  have hF : (b - 1 - y) * a + x < b * a := Pl.cell_lt hx (by omega)
  have hz : (b : Int) - 1 - (y : Int) = ((b - 1 - y : Nat) : Int) := by omega
  have hz1 : b - 1 - y < b := by omega
  generalize b - 1 - y = z at *
  obtain ⟨i0, i1⟩ := mul_bound (p := (z : Int)) (q := (a : Int)) (by omega) (by omega) (by omega) (by omega)
  have hlt := hF
  obtain ⟨bl, o, rfl, hbl, hc⟩ := hr'.at_ (by omega)
  have hcell := cell_read hbs hlt hc
  obtain ⟨c0, c1, c2⟩ := hg'.cell3
  clear hg hr hg' hr' hc hF hbs
  go_enter Tryd.func48, Tryd.ntmps48
  go_wp2
  go_ret
  exact ⟨rfl, Below.refl _ _⟩

end Go.Proofs.YtebbcpeldncekaaDoor
