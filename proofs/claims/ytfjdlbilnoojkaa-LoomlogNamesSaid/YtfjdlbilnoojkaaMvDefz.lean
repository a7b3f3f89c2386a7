/- Plain results of the operations that move cells, and small facts on cells. No program in sight. -/
import Derived.Test.YtfjdlbilnoojkaaGdz
namespace Go.Proofs.Ytfjdlbilnoojkaa
open Go.RowKit

/-- Facts on one cell of a grid that came in or that was made: the index, its bounds, what lies there. -/
theorem idx_bounds {a b x y : Nat} (ha : a ≤ 64) (hb : b ≤ 64) (hx : x < a) (hy : y < b) :
    0 ≤ (y : Int) * (a : Int) ∧ (y : Int) * (a : Int) ≤ 4096 ∧ (y : Int) * (a : Int) + (x : Int) < ((b * a : Nat) : Int) := by
  have h1 := Pl.cell_lt (w := a) (h := b) hx hy
  have h2 : b * a ≤ 64 * 64 := Nat.mul_le_mul hb ha
  have e : (y : Int) * (a : Int) = ((y * a : Nat) : Int) := (Int.natCast_mul y a).symm
  rw [e]
  omega

theorem bad_ret {r : Gd × Int} {k : Int} (h : r = (Gd.zero, k)) {w w' : World} (hb : Below w.heap.size w w') :
    RetG r w (.returned (.tuple #[.agg #[.int .i64 0, .int .i64 0, .slice none 0 0], .int .i64 k])) w' := by
  subst h
  exact ⟨none, 0, 0, rfl, World.ownsRow_nil _ _ _ _, hb⟩

/-- A cell that is read: its index in the grid, and what lies there. -/
theorem cell_read {w : World} {bl o i n : Nat} {bs : List Bool} (hl : bs.length = n) (hi : i < n)
    (hc : ∀ j u, (bs.map Value.bool)[j]? = some u → w.cell? ⟨bl, o + j, none⟩ = some u) : w.cell? ⟨bl, o + i, none⟩ = some (.bool (bs.getD i false)) := by
  refine hc i _ ?_
  rw [List.getElem?_map, List.getElem?_eq_getElem (by omega)]
  simp [List.getD, show i < bs.length by omega]
theorem mul_bound {p q : Int} (h1 : 0 ≤ p) (h2 : p ≤ 64) (h3 : 0 ≤ q) (h4 : q ≤ 64) : 0 ≤ p * q ∧ p * q ≤ 4096 :=
  ⟨Int.mul_nonneg h1 h3, Int.mul_le_mul (c := 64) (d := 64) h2 h4 h3 (by omega)⟩

/-- What is made of a grid without an error. -/
def withChk (g : Gd) (k : Nat → Nat → Gd × Int) : Gd × Int := if chkG g = 0 then k g.w.toNat g.h.toNat else (Gd.zero, chkG g)
theorem withChk_ok {bs : List Bool} {a b : Nat} {k : Nat → Nat → Gd × Int} (h : chk a b bs.length = 0) : withChk ⟨a, b, bs⟩ k = k a b := by
  unfold withChk; rw [if_pos (show chkG ⟨a, b, bs⟩ = 0 from h)]; simp
theorem withChk_bad {g : Gd} (h : chkG g ≠ 0) (k : Nat → Nat → Gd × Int) : withChk g k = (Gd.zero, chkG g) := if_neg h
def errG (k : Int) : Gd × Int := (Gd.zero, k)
def tabG (a b : Nat) (F : Nat → Nat → Bool) : Gd × Int := (⟨a, b, Pl.tab a b F⟩, 0)

def turnG (g : Gd) : Gd × Int := withChk g fun a b => tabG b a fun x y => g.bits.getD (x * a + y) false
def mirG (g : Gd) (axis : Int) : Gd × Int := withChk g fun a b =>
  if axis = 0 then tabG a b fun x y => g.bits.getD (y * a + (a - 1 - x)) false
  else if axis = 1 then tabG a b fun x y => g.bits.getD ((b - 1 - y) * a + x) false
  else errG 2
def tileG (g : Gd) (nx ny : Int) : Gd × Int := withChk g fun a b =>
  if nx < 1 ∨ ny < 1 then errG 2
  else if 64 / (a : Int) < nx ∨ 64 / (b : Int) < ny then errG 4
  else tabG (nx.toNat * a) (ny.toNat * b) fun x y => g.bits.getD (y % b * a + x % a) false
def partG (g : Gd) (x y w h : Int) : Gd × Int := withChk g fun a b =>
  if x < 0 ∨ y < 0 ∨ w < 1 ∨ h < 1 ∨ (a : Int) < w ∨ (b : Int) < h ∨ (a : Int) - w < x ∨ (b : Int) - h < y then errG 2
  else tabG w.toNat h.toNat fun i k => g.bits.getD ((y.toNat + k) * a + x.toNat + i) false
def shiftG (g : Gd) (dx dy : Int) : Gd × Int := withChk g fun a b =>
  tabG a b fun x y => g.bits.getD ((((y : Int) - dy) % (b : Int)).toNat * a + (((x : Int) - dx) % (a : Int)).toNat) false


end Go.Proofs.Ytfjdlbilnoojkaa
