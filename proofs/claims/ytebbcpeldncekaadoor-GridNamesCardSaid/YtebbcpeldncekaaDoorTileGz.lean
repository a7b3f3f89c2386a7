/- The closure of Tile. -/
import Derived.Test.YtebbcpeldncekaaDoorAroundz
namespace Go.Proofs.YtebbcpeldncekaaDoor
open Go.RowKit

theorem tile1_gives (na nb : Nat) (a b Bg : Nat) (A : Option Addr) (c : Nat) (bs : List Bool) (w : World) (ha : a ≤ 64) (hb : b ≤ 64) (ha1 : 1 ≤ a) (hb1 : 1 ≤ b)
    (hg : Blk w Bg 24 #[.int .i64 a, .int .i64 b, .slice A (b * a) c]) (hr : Rd w A (b * a) (bs.map Value.bool)) :
    Gives 53 #[.pointer (some ⟨Bg, 0, none⟩)] na nb (fun x y => bs.getD (y % b * a + x % a) false) w := by
  intro w' x y hbel hx hy
  show Calls _ _ _ _ fun e w'' => e = .returned (.bool (bs.getD (y % b * a + x % a) false)) ∧ Below w'.heap.size w' w''
  have hg' := hg.keep hbel
  have hr' := hr.below hbel
  have hbs : bs.length = b * a := by simpa using hr.len
  have hF : y % b * a + x % a < b * a := Pl.cell_lt (Nat.mod_lt _ ha1) (Nat.mod_lt _ hb1)
  have hz1 : (y : Int) % (b : Int) = ((y % b : Nat) : Int) := rfl
  have hz2 : (x : Int) % (a : Int) = ((x % a : Nat) : Int) := rfl
  have hy2 := Nat.mod_lt y hb1
  have hx2 := Nat.mod_lt x ha1
  generalize y % b = zy at *
  generalize x % a = zx at *
  have hb0 : ¬ (b : Int) = 0 := by omega
  have ha0 : ¬ (a : Int) = 0 := by omega
  obtain ⟨i0, i1⟩ := mul_bound (p := (zy : Int)) (q := (a : Int)) (by omega) (by omega) (by omega) (by omega)
  have hlt := hF
  obtain ⟨bl, o, rfl, hbl, hc⟩ := hr'.at_ (by omega)
  have hcell := cell_read hbs hlt hc
  obtain ⟨c0, c1, c2⟩ := hg'.cell3
  clear hg hr hg' hr' hc hF hbs
  go_enter Tryd.func53, Tryd.ntmps53
  go_wp2_with fail
  go_quiet (fail)
  go_wp2
  go_ret
  exact ⟨rfl, below_drewN (Below.refl _ _) _⟩
end Go.Proofs.YtebbcpeldncekaaDoor
