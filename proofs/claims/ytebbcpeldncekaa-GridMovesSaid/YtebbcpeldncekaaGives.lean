/- The closures of grid.Turn, Mirror, Tile and Part give cells of the grid; around and Mod give the remainder from 0 on (a divisor of at least 1). -/
import Derived.Test.YtebbcpeldncekaaNot
import Derived.Deep.QuietTactic
import Derived.BigQuiet
namespace Go.Proofs.Ytebbcpeldncekaa
open Go.RowKit

/-- A cell that is read: its index in the grid, and what lies there. -/
theorem cell_read {w : World} {bl o i n : Nat} {bs : List Bool} (hl : bs.length = n) (hi : i < n)
    (hc : ∀ j u, (bs.map Value.bool)[j]? = some u → w.cell? ⟨bl, o + j, none⟩ = some u) : w.cell? ⟨bl, o + i, none⟩ = some (.bool (bs.getD i false)) := by
  refine hc i _ ?_
  rw [List.getElem?_map, List.getElem?_eq_getElem (by omega)]
  simp [List.getD, show i < bs.length by omega]
theorem mul_bound {p q : Int} (h1 : 0 ≤ p) (h2 : p ≤ 64) (h3 : 0 ≤ q) (h4 : q ≤ 64) : 0 ≤ p * q ∧ p * q ≤ 4096 :=
  ⟨Int.mul_nonneg h1 h3, Int.mul_le_mul (c := 64) (d := 64) h2 h4 h3 (by omega)⟩

theorem turn1_gives (a b Bg : Nat) (A : Option Addr) (c : Nat) (bs : List Bool) (w : World) (ha : a ≤ 64) (hb : b ≤ 64)
    (hg : Blk w Bg 24 #[.int .i64 a, .int .i64 b, .slice A (b * a) c]) (hr : Rd w A (b * a) (bs.map Value.bool)) :
    Gives 32 #[.pointer (some ⟨Bg, 0, none⟩)] b a (fun x y => bs.getD (x * a + y) false) w := by
  intro w' x y hbel hx hy
  show Calls _ _ _ _ fun e w'' => e = .returned (.bool (bs.getD (x * a + y) false)) ∧ Below w'.heap.size w' w''
  have hg' := hg.keep hbel
  have hr' := hr.below hbel
  have hbs : bs.length = b * a := by simpa using hr.len
  have hF : x * a + y < b * a := Pl.cell_lt hy hx
  obtain ⟨i0, i1⟩ := mul_bound (p := (x : Int)) (q := (a : Int)) (by omega) (by omega) (by omega) (by omega)
  have hlt := hF
  obtain ⟨bl, o, rfl, hbl, hc⟩ := hr'.at_ (by omega)
  have hcell := cell_read hbs hlt hc
  obtain ⟨c0, c1, c2⟩ := hg'.cell3
  clear hg hr hg' hr' hc hF hbs
  go_enter Try.func32, Try.ntmps32
  go_wp2
  go_ret
  exact ⟨rfl, Below.refl _ _⟩

theorem mirror1_gives (a b Bg : Nat) (A : Option Addr) (c : Nat) (bs : List Bool) (w : World) (ha : a ≤ 64) (hb : b ≤ 64)
    (hg : Blk w Bg 24 #[.int .i64 a, .int .i64 b, .slice A (b * a) c]) (hr : Rd w A (b * a) (bs.map Value.bool)) :
    Gives 34 #[.pointer (some ⟨Bg, 0, none⟩)] a b (fun x y => bs.getD (y * a + (a - 1 - x)) false) w := by
  intro w' x y hbel hx hy
  show Calls _ _ _ _ fun e w'' => e = .returned (.bool (bs.getD (y * a + (a - 1 - x)) false)) ∧ Below w'.heap.size w' w''
  have hg' := hg.keep hbel
  have hr' := hr.below hbel
  have hbs : bs.length = b * a := by simpa using hr.len
  have hF : y * a + (a - 1 - x) < b * a := Pl.cell_lt (by omega) hy
  obtain ⟨i0, i1⟩ := mul_bound (p := (y : Int)) (q := (a : Int)) (by omega) (by omega) (by omega) (by omega)
  have hi : ((y : Int) * (a : Int) + (a : Int) - 1 - (x : Int)) = ((y * a + (a - 1 - x) : Nat) : Int) := by
    rw [Int.natCast_add, Int.natCast_mul]; omega
  have hlt := hF
  obtain ⟨bl, o, rfl, hbl, hc⟩ := hr'.at_ (by omega)
  have hcell := cell_read hbs hlt hc
  obtain ⟨c0, c1, c2⟩ := hg'.cell3
  clear hg hr hg' hr' hc hF hbs
  go_enter Try.func34, Try.ntmps34
  go_wp2
  go_ret
  exact ⟨rfl, Below.refl _ _⟩

theorem mirror2_gives (a b Bg : Nat) (A : Option Addr) (c : Nat) (bs : List Bool) (w : World) (ha : a ≤ 64) (hb : b ≤ 64)
    (hg : Blk w Bg 24 #[.int .i64 a, .int .i64 b, .slice A (b * a) c]) (hr : Rd w A (b * a) (bs.map Value.bool)) :
    Gives 35 #[.pointer (some ⟨Bg, 0, none⟩)] a b (fun x y => bs.getD ((b - 1 - y) * a + x) false) w := by
  intro w' x y hbel hx hy
  show Calls _ _ _ _ fun e w'' => e = .returned (.bool (bs.getD ((b - 1 - y) * a + x) false)) ∧ Below w'.heap.size w' w''
  have hg' := hg.keep hbel
  have hr' := hr.below hbel
  have hbs : bs.length = b * a := by simpa using hr.len
  have hF : (b - 1 - y) * a + x < b * a := Pl.cell_lt hx (by omega)
  have hz : (b : Int) - 1 - (y : Int) = ((b - 1 - y : Nat) : Int) := by omega
  have hz1 : b - 1 - y < b := by omega
  generalize b - 1 - y = z at *
  obtain ⟨i0, i1⟩ := mul_bound (p := (z : Int)) (q := (a : Int)) (by omega) (by omega) (by omega) (by omega)
  have hlt := hF
  obtain ⟨bl, o, rfl, hbl, hc⟩ := hr'.at_ (by omega)
  have hcell := cell_read hbs hlt hc
  obtain ⟨c0, c1, c2⟩ := hg'.cell3
  clear hg hr hg' hr' hc hF hbs
  go_enter Try.func35, Try.ntmps35
  go_wp2
  go_ret
  exact ⟨rfl, Below.refl _ _⟩

theorem tile1_gives (na nb : Nat) (a b Bg : Nat) (A : Option Addr) (c : Nat) (bs : List Bool) (w : World) (ha : a ≤ 64) (hb : b ≤ 64) (ha1 : 1 ≤ a) (hb1 : 1 ≤ b)
    (hg : Blk w Bg 24 #[.int .i64 a, .int .i64 b, .slice A (b * a) c]) (hr : Rd w A (b * a) (bs.map Value.bool)) :
    Gives 42 #[.pointer (some ⟨Bg, 0, none⟩)] na nb (fun x y => bs.getD (y % b * a + x % a) false) w := by
  intro w' x y hbel hx hy
  show Calls _ _ _ _ fun e w'' => e = .returned (.bool (bs.getD (y % b * a + x % a) false)) ∧ Below w'.heap.size w' w''
  have hg' := hg.keep hbel
  have hr' := hr.below hbel
  have hbs : bs.length = b * a := by simpa using hr.len
  have hF : y % b * a + x % a < b * a := Pl.cell_lt (Nat.mod_lt _ ha1) (Nat.mod_lt _ hb1)
  have hz1 : (y : Int) % (b : Int) = ((y % b : Nat) : Int) := rfl
  have hz2 : (x : Int) % (a : Int) = ((x % a : Nat) : Int) := rfl
  have hy2 := Nat.mod_lt y hb1
  have hx2 := Nat.mod_lt x ha1
  generalize y % b = zy at *
  generalize x % a = zx at *
  have hb0 : ¬ (b : Int) = 0 := by omega
  have ha0 : ¬ (a : Int) = 0 := by omega
  obtain ⟨i0, i1⟩ := mul_bound (p := (zy : Int)) (q := (a : Int)) (by omega) (by omega) (by omega) (by omega)
  have hlt := hF
  obtain ⟨bl, o, rfl, hbl, hc⟩ := hr'.at_ (by omega)
  have hcell := cell_read hbs hlt hc
  obtain ⟨c0, c1, c2⟩ := hg'.cell3
  clear hg hr hg' hr' hc hF hbs
  go_enter Try.func42, Try.ntmps42
  go_wp2_with fail
  go_quiet (fail)
  go_wp2
  go_ret
  exact ⟨rfl, below_drewN (Below.refl _ _) _⟩

theorem part1_gives (px py pw ph Bx By : Nat) (a b Bg : Nat) (A : Option Addr) (c : Nat) (bs : List Bool) (w : World) (ha : a ≤ 64) (hb : b ≤ 64) (hpx : px + pw ≤ a) (hpy : py + ph ≤ b)
    (hg : Blk w Bg 24 #[.int .i64 a, .int .i64 b, .slice A (b * a) c]) (hr : Rd w A (b * a) (bs.map Value.bool)) (hbx : Blk w Bx 3 #[.int .i64 px]) (hby : Blk w By 3 #[.int .i64 py]) :
    Gives 43 #[.pointer (some ⟨Bg, 0, none⟩), .pointer (some ⟨By, 0, none⟩), .pointer (some ⟨Bx, 0, none⟩)] pw ph (fun x y => bs.getD ((py + y) * a + px + x) false) w := by
  intro w' x y hbel hx hy
  show Calls _ _ _ _ fun e w'' => e = .returned (.bool (bs.getD ((py + y) * a + px + x) false)) ∧ Below w'.heap.size w' w''
  have hg' := hg.keep hbel
  have hr' := hr.below hbel
  have hbs : bs.length = b * a := by simpa using hr.len
  have hF : (py + y) * a + px + x < b * a := by
    have := Pl.cell_lt (w := a) (h := b) (x := px + x) (y := py + y) (by omega) (by omega)
    omega
  have hz : (py : Int) + (y : Int) = ((py + y : Nat) : Int) := by omega
  have hz1 : py + y < b := by omega
  generalize py + y = z at *
  obtain ⟨i0, i1⟩ := mul_bound (p := (z : Int)) (q := (a : Int)) (by omega) (by omega) (by omega) (by omega)
  have cx := (hbx.keep hbel).cell 0
  have cy := (hby.keep hbel).cell 0
  clear hbx hby
  have hlt := hF
  obtain ⟨bl, o, rfl, hbl, hc⟩ := hr'.at_ (by omega)
  have hcell := cell_read hbs hlt hc
  obtain ⟨c0, c1, c2⟩ := hg'.cell3
  clear hg hr hg' hr' hc hF hbs
  go_enter Try.func43, Try.ntmps43
  go_wp2
  go_ret
  exact ⟨rfl, Below.refl _ _⟩

theorem around_any (a n : Int) (w : World) (hn : 1 ≤ n) (hn2 : n ≤ 1000000) :
    Calls Try.prog 39 #[.int .i64 a, .int .i64 n] w fun e w' => e = .returned (.int .i64 (a % n)) ∧ w' = w := by
  have h1 := Int.tmod_lt_of_pos a (show 0 < n by omega)
  have h2 := Int.lt_tmod_of_pos a (show 0 < n by omega)
  have h3 := Pl.tmod_pos a n (by omega)
  have H3 := Lib.hid h3
  clear h3
  by_cases ht : a.tmod n < 0
  all_goals
    go_enter Try.func39, Try.ntmps39
    go_wp2
    go_ret
    exact ⟨ret_i (by have := H3.out; first | (rw [if_pos ht] at this; exact this) | (rw [if_neg (by omega)] at this; exact this)), rfl⟩

theorem mod_any (a n : Int) (w : World) (hn : 1 ≤ n) (hn2 : n ≤ 1000000) :
    Calls Try.prog 45 #[.int .i64 a, .int .i64 n] w fun e w' => e = .returned (.int .i64 (a % n)) ∧ w' = w := by
  have h1 := Int.tmod_lt_of_pos a (show 0 < n by omega)
  have h2 := Int.lt_tmod_of_pos a (show 0 < n by omega)
  have h3 := Pl.mod2 a n (by omega)
  have H3 := Lib.hid h3
  clear h3
  go_enter Try.func45, Try.ntmps45
  go_wp2
  go_ret
  exact ⟨ret_i (by have := H3.out; rw [Int.tmod_eq_emod_of_nonneg (by omega)] at this; exact this), rfl⟩

end Go.Proofs.Ytebbcpeldncekaa
