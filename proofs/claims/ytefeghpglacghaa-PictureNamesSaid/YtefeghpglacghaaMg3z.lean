/- Parts of the proof, in their order. -/
import Derived.Test.YtefeghpglacghaaGdz
import Derived.Test.YtefeghpglacghaaStz
import Derived.Test.YtefeghpglacghaaMg2z
import Derived.BigQuiet
import Derived.Outline
/- Plain results of the operations that move cells, and small facts on cells. No program in sight. -/
namespace Go.Proofs.Ytefeghpglacghaa
open Go.RowKit

/-- Facts on one cell of a grid that came in or that was made: the index, its bounds, what lies there. -/
theorem idx_bounds {a b x y : Nat} (ha : a ≤ 64) (hb : b ≤ 64) (hx : x < a) (hy : y < b) :
    0 ≤ (y : Int) * (a : Int) ∧ (y : Int) * (a : Int) ≤ 4096 ∧ (y : Int) * (a : Int) + (x : Int) < ((b * a : Nat) : Int) := by
  have h1 := Pl.cell_lt (w := a) (h := b) hx hy
  have h2 : b * a ≤ 64 * 64 := Nat.mul_le_mul hb ha
  have e : (y : Int) * (a : Int) = ((y * a : Nat) : Int) := (Int.natCast_mul y a).symm
  rw [e]
  omega

theorem bad_ret {r : Gd × Int} {k : Int} (h : r = (Gd.zero, k)) {w w' : World} (hb : Below w.heap.size w w') :
    RetG r w (.returned (.tuple #[.agg #[.int .i64 0, .int .i64 0, .slice none 0 0], .int .i64 k])) w' := by
  subst h
  exact ⟨none, 0, 0, rfl, World.ownsRow_nil _ _ _ _, hb⟩

/-- A cell that is read: its index in the grid, and what lies there. -/
theorem cell_read {w : World} {bl o i n : Nat} {bs : List Bool} (hl : bs.length = n) (hi : i < n)
    (hc : ∀ j u, (bs.map Value.bool)[j]? = some u → w.cell? ⟨bl, o + j, none⟩ = some u) : w.cell? ⟨bl, o + i, none⟩ = some (.bool (bs.getD i false)) := by
  refine hc i _ ?_
  rw [List.getElem?_map, List.getElem?_eq_getElem (by omega)]
  simp [List.getD, show i < bs.length by omega]
theorem mul_bound {p q : Int} (h1 : 0 ≤ p) (h2 : p ≤ 64) (h3 : 0 ≤ q) (h4 : q ≤ 64) : 0 ≤ p * q ∧ p * q ≤ 4096 :=
  ⟨Int.mul_nonneg h1 h3, Int.mul_le_mul (c := 64) (d := 64) h2 h4 h3 (by omega)⟩

/-- What is made of a grid without an error. -/
def withChk (g : Gd) (k : Nat → Nat → Gd × Int) : Gd × Int := if chkG g = 0 then k g.w.toNat g.h.toNat else (Gd.zero, chkG g)
theorem withChk_ok {bs : List Bool} {a b : Nat} {k : Nat → Nat → Gd × Int} (h : chk a b bs.length = 0) : withChk ⟨a, b, bs⟩ k = k a b := by
  unfold withChk; rw [if_pos (show chkG ⟨a, b, bs⟩ = 0 from h)]; simp
theorem withChk_bad {g : Gd} (h : chkG g ≠ 0) (k : Nat → Nat → Gd × Int) : withChk g k = (Gd.zero, chkG g) := if_neg h
def errG (k : Int) : Gd × Int := (Gd.zero, k)
def tabG (a b : Nat) (F : Nat → Nat → Bool) : Gd × Int := (⟨a, b, Pl.tab a b F⟩, 0)

def turnG (g : Gd) : Gd × Int := withChk g fun a b => tabG b a fun x y => g.bits.getD (x * a + y) false
def mirG (g : Gd) (axis : Int) : Gd × Int := withChk g fun a b =>
  if axis = 0 then tabG a b fun x y => g.bits.getD (y * a + (a - 1 - x)) false
  else if axis = 1 then tabG a b fun x y => g.bits.getD ((b - 1 - y) * a + x) false
  else errG 2
def tileG (g : Gd) (nx ny : Int) : Gd × Int := withChk g fun a b =>
  if nx < 1 ∨ ny < 1 then errG 2
  else if 64 / (a : Int) < nx ∨ 64 / (b : Int) < ny then errG 4
  else tabG (nx.toNat * a) (ny.toNat * b) fun x y => g.bits.getD (y % b * a + x % a) false
def partG (g : Gd) (x y w h : Int) : Gd × Int := withChk g fun a b =>
  if x < 0 ∨ y < 0 ∨ w < 1 ∨ h < 1 ∨ (a : Int) < w ∨ (b : Int) < h ∨ (a : Int) - w < x ∨ (b : Int) - h < y then errG 2
  else tabG w.toNat h.toNat fun i k => g.bits.getD ((y.toNat + k) * a + x.toNat + i) false
def shiftG (g : Gd) (dx dy : Int) : Gd × Int := withChk g fun a b =>
  tabG a b fun x y => g.bits.getD ((((y : Int) - dy) % (b : Int)).toNat * a + (((x : Int) - dx) % (a : Int)).toNat) false


end Go.Proofs.Ytefeghpglacghaa
/- raddleref02.Same of two lists that read the same. -/
namespace Go.Proofs.Ytefeghpglacghaa
open Go.RowKit

set_option maxHeartbeats 1000000 in
theorem lsame_any (xs : List Int) (A A' : Option Addr) (n n' c c' : Nat) (w : World) (hr : Rd w A n (xs.map (Value.int .i64))) (hr' : Rd w A' n' (xs.map (Value.int .i64))) (hn : n ≤ 1048576) :
    Calls Try.prog 15 #[.slice A n c, .slice A' n' c'] w fun e w' => e = .returned (.bool true) ∧ Below w.heap.size w w' := by
  have e1 := hr.len
  have e2 := hr'.len
  obtain rfl : n' = n := by omega
  clear e2
  have HN := Lib.hid e1
  clear e1
  go_enter Try.func15, Try.ntmps15
  go_wp2_with fail
  go_loopw [5] (fun i wr => ∃ x : Nat, x ≤ n' ∧ i = .int .i64 x ∧ Below w.heap.size w wr) (fun i _ => n' - (intOf i).toNat)
  case atStart => exact ⟨0, Nat.zero_le _, rfl, Below.refl _ _⟩
  case round =>
    obtain ⟨x, hx, rfl, hb⟩ := hrel
    by_cases hlt : x < n'
    · obtain ⟨b, o, hA, _, hc⟩ := (hr.below hb).at_ (by omega)
      obtain ⟨b', o', hA', _, hc'⟩ := (hr'.below hb).at_ (by omega)
      have hl : xs.length = n' := by have := HN.out; simpa using this
      have g0 := hc x (.int .i64 (xs.getD x 0)) (by rw [List.getElem?_map, List.getElem?_eq_getElem (by omega)]; simp [List.getD, show x < xs.length by omega])
      have g1 := hc' x (.int .i64 (xs.getD x 0)) (by rw [List.getElem?_map, List.getElem?_eq_getElem (by omega)]; simp [List.getD, show x < xs.length by omega])
      generalize xs.getD x 0 = z at *
      clear hc hc' hr hr' hl
      rw [hA, hA']
      clear hA hA'
      go_wp2_with fail
      go_quiet (fail)
      go_wp2_with fail
      go_roundw
      case rel => exact ⟨x + 1, by omega, by go_num, below_drewN hb _⟩
      case measure => simp [intOf]; omega
    · go_wp2_with fail
      go_ret
      exact ⟨rfl, hb⟩
end Go.Proofs.Ytefeghpglacghaa
/- The reference's Check of layer 1 gives the error 'chk', for any grid. -/
namespace Go.Proofs.Ytefeghpglacghaa
open Go.RowKit

theorem rcheck_any (W H : Int) (A : Option Addr) (n c : Nat) (w : World) :
    Calls Try.prog 38 #[.agg #[.int .i64 W, .int .i64 H, .slice A n c]] w fun e w' => e = .returned (.int .i64 (chk W H n)) ∧ Below w.heap.size w w' := by
  by_cases hb : 64 < W ∨ 64 < H
  · go_enter Try.func38, Try.ntmps38
    go_wp2
    all_goals (go_ret; exact ⟨ret_i (chk_big hb).symm, (Below.refl _ _).alloc (Nat.le_refl _) _⟩)
  by_cases hs : W < 1 ∨ H < 1
  · have hW : W ≤ 64 := by omega
    have hH : H ≤ 64 := by omega
    go_enter Try.func38, Try.ntmps38
    go_wp2
    all_goals (go_ret; exact ⟨ret_i (chk_bad hW hH (by omega)).symm, (Below.refl _ _).alloc (Nat.le_refl _) _⟩)
  have hW : W ≤ 64 := by omega
  have hH : H ≤ 64 := by omega
  have hW1 : 1 ≤ W := by omega
  have hH1 : 1 ≤ H := by omega
  have hm := mul_wrap hW hH hW1 hH1
  by_cases hl : (n : Int) = W * H
  · have hl' : ((n : Int) != wrap64 (W * H)) = false := by rw [hm, bne_eq_false_iff_eq]; exact hl
    have HL := Lib.hid hl; clear hl
    have HM := Lib.hid hm; clear hm
    go_enter Try.func38, Try.ntmps38
    go_wp2
    all_goals (go_ret; exact ⟨ret_i (chk_ok hW hH hW1 hH1 HL.out).symm, (Below.refl _ _).alloc (Nat.le_refl _) _⟩)
  · have hl' : ((n : Int) != wrap64 (W * H)) = true := by rw [hm, bne_iff_ne]; exact hl
    have HL := Lib.hid hl; clear hl
    have HM := Lib.hid hm; clear hm
    go_enter Try.func38, Try.ntmps38
    go_wp2
    all_goals (go_ret; exact ⟨ret_i (chk_bad hW hH (.inr (.inr HL.out))).symm, (Below.refl _ _).alloc (Nat.le_refl _) _⟩)
end Go.Proofs.Ytefeghpglacghaa
