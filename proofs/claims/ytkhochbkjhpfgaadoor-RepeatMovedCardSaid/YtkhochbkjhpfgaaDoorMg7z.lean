/- Parts of the proof, in their order. -/
import Derived.Test.YtkhochbkjhpfgaaDoorMg6z
import Derived.Test.YtkhochbkjhpfgaaDoorMg2z
/- The closure of Tile. -/
namespace Go.Proofs.YtkhochbkjhpfgaaDoor
open Go.RowKit

theorem tile1_gives (na nb : Nat) (a b Bg : Nat) (A : Option Addr) (c : Nat) (bs : List Bool) (w : World) (ha : a ≤ 64) (hb : b ≤ 64) (ha1 : 1 ≤ a) (hb1 : 1 ≤ b)
    (hg : Blk w Bg 33 #[.int .i64 a, .int .i64 b, .slice A (b * a) c]) (hr : Rd w A (b * a) (bs.map Value.bool)) :
    Gives 36 #[.pointer (some ⟨Bg, 0, none⟩)] na nb (fun x y => bs.getD (y % b * a + x % a) false) w := by
  intro w' x y hbel hx hy
  show Calls _ _ _ _ fun e w'' => e = .returned (.bool (bs.getD (y % b * a + x % a) false)) ∧ Below w'.heap.size w' w''
  have hg' := hg.keep hbel
  have hr' := hr.below hbel
  have hbs : bs.length = b * a := by simpa using hr.len
  have hF : y % b * a + x % a < b * a := Pl.cell_lt (Nat.mod_lt _ ha1) (Nat.mod_lt _ hb1)
  have hz1 : (y : Int) % (b : Int) = ((y % b : Nat) : Int) := rfl
  have hz2 : (x : Int) % (a : Int) = ((x % a : Nat) : Int) := rfl
  have hy2 := Nat.mod_lt y hb1
  have hx2 := Nat.mod_lt x ha1
  generalize y % b = zy at *
  generalize x % a = zx at *
  have hb0 : ¬ (b : Int) = 0 := by omega
  have ha0 : ¬ (a : Int) = 0 := by omega
  obtain ⟨i0, i1⟩ := mul_bound (p := (zy : Int)) (q := (a : Int)) (by omega) (by omega) (by omega) (by omega)
  have hlt := hF
  obtain ⟨bl, o, rfl, hbl, hc⟩ := hr'.at_ (by omega)
  have hcell := cell_read hbs hlt hc
  obtain ⟨c0, c1, c2⟩ := hg'.cell3
  clear hg hr hg' hr' hc hF hbs
  go_enter Tryd.func36, Tryd.ntmps36
  go_wp2_with fail
  go_quiet (fail)
  go_wp2
  go_ret
  exact ⟨rfl, below_drewN (Below.refl _ _) _⟩
end Go.Proofs.YtkhochbkjhpfgaaDoor
/- The reference's Check of layer 1 gives the error 'chk', for any grid. -/
namespace Go.Proofs.YtkhochbkjhpfgaaDoor
open Go.RowKit

theorem rcheck_any (W H : Int) (A : Option Addr) (n c : Nat) (w : World) :
    Calls Tryd.prog 28 #[.agg #[.int .i64 W, .int .i64 H, .slice A n c]] w fun e w' => e = .returned (.int .i64 (chk W H n)) ∧ Below w.heap.size w w' := by
  by_cases hb : 64 < W ∨ 64 < H
  · go_enter Tryd.func28, Tryd.ntmps28
    go_wp2
    all_goals (go_ret; exact ⟨ret_i (chk_big hb).symm, (Below.refl _ _).alloc (Nat.le_refl _) _⟩)
  by_cases hs : W < 1 ∨ H < 1
  · have hW : W ≤ 64 := by omega
    have hH : H ≤ 64 := by omega
    go_enter Tryd.func28, Tryd.ntmps28
    go_wp2
    all_goals (go_ret; exact ⟨ret_i (chk_bad hW hH (by omega)).symm, (Below.refl _ _).alloc (Nat.le_refl _) _⟩)
  have hW : W ≤ 64 := by omega
  have hH : H ≤ 64 := by omega
  have hW1 : 1 ≤ W := by omega
  have hH1 : 1 ≤ H := by omega
  have hm := mul_wrap hW hH hW1 hH1
  by_cases hl : (n : Int) = W * H
  · have hl' : ((n : Int) != wrap64 (W * H)) = false := by rw [hm, bne_eq_false_iff_eq]; exact hl
    have HL := Lib.hid hl; clear hl
    have HM := Lib.hid hm; clear hm
    go_enter Tryd.func28, Tryd.ntmps28
    go_wp2
    all_goals (go_ret; exact ⟨ret_i (chk_ok hW hH hW1 hH1 HL.out).symm, (Below.refl _ _).alloc (Nat.le_refl _) _⟩)
  · have hl' : ((n : Int) != wrap64 (W * H)) = true := by rw [hm, bne_iff_ne]; exact hl
    have HL := Lib.hid hl; clear hl
    have HM := Lib.hid hm; clear hm
    go_enter Tryd.func28, Tryd.ntmps28
    go_wp2
    all_goals (go_ret; exact ⟨ret_i (chk_bad hW hH (.inr (.inr HL.out))).symm, (Below.refl _ _).alloc (Nat.le_refl _) _⟩)
end Go.Proofs.YtkhochbkjhpfgaaDoor
