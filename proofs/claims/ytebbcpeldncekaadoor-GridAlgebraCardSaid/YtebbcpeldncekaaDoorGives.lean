/- The closures of grid.Mirror, Tile and Part give cells of the grid; around and Mod give the remainder from 0 on (a divisor of at least 1). -/
import Derived.Test.YtebbcpeldncekaaDoorGTurn
import Derived.Deep.QuietTactic
import Derived.BigQuiet
namespace Go.Proofs.YtebbcpeldncekaaDoor
open Go.RowKit

theorem mirror1_gives (a b Bg : Nat) (A : Option Addr) (c : Nat) (bs : List Bool) (w : World) (ha : a ≤ 64) (hb : b ≤ 64)
    (hg : Blk w Bg 24 #[.int .i64 a, .int .i64 b, .slice A (b * a) c]) (hr : Rd w A (b * a) (bs.map Value.bool)) :
    Gives 47 #[.pointer (some ⟨Bg, 0, none⟩)] a b (fun x y => bs.getD (y * a + (a - 1 - x)) false) w := by
  intro w' x y hbel hx hy
  show Calls _ _ _ _ fun e w'' => e = .returned (.bool (bs.getD (y * a + (a - 1 - x)) false)) ∧ Below w'.heap.size w' w''
  have hg' := hg.keep hbel
  have hr' := hr.below hbel
  have hbs : bs.length = b * a := by simpa using hr.len
  have hF : y * a + (a - 1 - x) < b * a := Pl.cell_lt (by omega) hy
  obtain ⟨i0, i1⟩ := mul_bound (p := (y : Int)) (q := (a : Int)) (by omega) (by omega) (by omega) (by omega)
  have hi : ((y : Int) * (a : Int) + (a : Int) - 1 - (x : Int)) = ((y * a + (a - 1 - x) : Nat) : Int) := by
    rw [Int.natCast_add, Int.natCast_mul]; omega
  have hlt := hF
  obtain ⟨bl, o, rfl, hbl, hc⟩ := hr'.at_ (by omega)
  have hcell := cell_read hbs hlt hc
  obtain ⟨c0, c1, c2⟩ := hg'.cell3
  clear hg hr hg' hr' hc hF hbs
  go_enter Tryd.func47, Tryd.ntmps47
  go_wp2
  go_ret
  exact ⟨rfl, Below.refl _ _⟩

theorem mirror2_gives (a b Bg : Nat) (A : Option Addr) (c : Nat) (bs : List Bool) (w : World) (ha : a ≤ 64) (hb : b ≤ 64)
    (hg : Blk w Bg 24 #[.int .i64 a, .int .i64 b, .slice A (b * a) c]) (hr : Rd w A (b * a) (bs.map Value.bool)) :
    Gives 48 #[.pointer (some ⟨Bg, 0, none⟩)] a b (fun x y => bs.getD ((b - 1 - y) * a + x) false) w := by
  intro w' x y hbel hx hy
  show Calls _ _ _ _ fun e w'' => e = .returned (.bool (bs.getD ((b - 1 - y) * a + x) false)) ∧ Below w'.heap.size w' w''
  have hg' := hg.keep hbel
  have hr' := hr.below hbel
  have hbs : bs.length = b * a := by simpa using hr.len
  have hF : (b - 1 - y) * a + x < b * a := Pl.cell_lt hx (by omega)
  have hz : (b : Int) - 1 - (y : Int) = ((b - 1 - y : Nat) : Int) := by omega
  have hz1 : b - 1 - y < b := by omega
  generalize b - 1 - y = z at *
  obtain ⟨i0, i1⟩ := mul_bound (p := (z : Int)) (q := (a : Int)) (by omega) (by omega) (by omega) (by omega)
  have hlt := hF
  obtain ⟨bl, o, rfl, hbl, hc⟩ := hr'.at_ (by omega)
  have hcell := cell_read hbs hlt hc
  obtain ⟨c0, c1, c2⟩ := hg'.cell3
  clear hg hr hg' hr' hc hF hbs
  go_enter Tryd.func48, Tryd.ntmps48
  go_wp2
  go_ret
  exact ⟨rfl, Below.refl _ _⟩

theorem around_any (a n : Int) (w : World) (hn : 1 ≤ n) (hn2 : n ≤ 1000000) :
    Calls Tryd.prog 45 #[.int .i64 a, .int .i64 n] w fun e w' => e = .returned (.int .i64 (a % n)) ∧ w' = w := by
  have h1 := Int.tmod_lt_of_pos a (show 0 < n by omega)
  have h2 := Int.lt_tmod_of_pos a (show 0 < n by omega)
  have h3 := Pl.tmod_pos a n (by omega)
  have H3 := Lib.hid h3
  clear h3
  by_cases ht : a.tmod n < 0
  all_goals
    go_enter Tryd.func45, Tryd.ntmps45
    go_wp2
    go_ret
    exact ⟨ret_i (by have := H3.out; first | (rw [if_pos ht] at this; exact this) | (rw [if_neg (by omega)] at this; exact this)), rfl⟩

end Go.Proofs.YtebbcpeldncekaaDoor
