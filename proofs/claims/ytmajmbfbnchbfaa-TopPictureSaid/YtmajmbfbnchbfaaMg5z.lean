/- Parts of the proof, in their order. -/
import Derived.Test.YtmajmbfbnchbfaaMg4z
import Derived.Lib.SmallJoins
import Derived.Test.YtmajmbfbnchbfaaMg1z
/- A draft that came in as an argument, opened. -/
namespace Go.Proofs.Ytmajmbfbnchbfaa
open Go.RowKit Go.ChangeShapes Go.WideShapes Go.Joins Go.Deep

theorem Try.cellsDraft : Try.prog.cellsOf 27 = 7 := by kernel_rfl
theorem Try.cellsIntD : Try.prog.cellsOf 3 = 1 := by kernel_rfl
theorem Try.cellsIntsD : Try.prog.cellsOf 22 = 1 := by kernel_rfl
theorem Try.cellsBoolsD : Try.prog.cellsOf 23 = 1 := by kernel_rfl
theorem array7 {α : Type} {cs : Array α} (h : cs.size = 7) : ∃ c0 c1 c2 c3 c4 c5 c6, cs = #[c0, c1, c2, c3, c4, c5, c6] := by
  obtain ⟨l⟩ := cs
  match l, h with
  | [c0, c1, c2, c3, c4, c5, c6], _ => exact ⟨c0, c1, c2, c3, c4, c5, c6, rfl⟩
set_option maxRecDepth 100000 in
theorem open_draft {H : Type} {enc : TypeId × Value → H} {W : World} {base : Nat} {v : Value} {d : DataW H} {p : List MemPlace}
    (hv : Value.okWide Try.prog W .any base 27 v) (h : DataW.Trod enc Try.prog W 0 (fun _ => true) true 27 v d p) :
    ∃ (s t : Int) (th tr : List Int) (g : Gd) (Ah : Option Addr) (nh ch : Nat) (Ar : Option Addr) (nr cr : Nat) (At : Option Addr) (n ct : Nat),
      v = .agg #[.int .i64 s, .int .i64 t, .slice Ah nh ch, .slice Ar nr cr, .int .i64 g.w, .int .i64 g.h, .slice At n ct] ∧ Rd W Ah nh (th.map (Value.int .i64)) ∧ Rd W Ar nr (tr.map (Value.int .i64)) ∧ Rd W At n (g.bits.map Value.bool) := by
  obtain ⟨cs, rfl, hsz⟩ := okWide_struct Try.underlying27 hv
  obtain ⟨c0, c1, c2, c3, c4, c5, c6, rfl⟩ := array7 (hsz.trans Try.cellsDraft)
  obtain ⟨fuel, hf⟩ := h
  obtain ⟨xs, m, _, _, _, hlen, hx⟩ := DataW.trod_struct Try.underlying27 hf
  match xs, hlen with
  | [y0, y1, y2, y3, y4], _ =>
    have h0 := hx 0 _ rfl
    have h1 := hx 1 _ rfl
    have h2 := hx 2 _ rfl
    have h3 := hx 3 _ rfl
    have h4 := hx 4 _ rfl
    simp [Value.cells, Try.cellsIntD, Try.cellsIntsD, Try.cellsGrid] at h0 h1 h2 h3 h4
    obtain ⟨a, e0, _, _⟩ := DataW.trod_int Try.underlying3 h0
    obtain ⟨b, e1, _, _⟩ := DataW.trod_int Try.underlying3 h1
    obtain ⟨Ah, nh, ch, th, rfl, _, _, rh, _⟩ := rd_ints Try.underlying22 Try.underlying3 Try.cellsIntD h2
    obtain ⟨Ar, nr, cr, tr, rfl, _, _, rr, _⟩ := rd_ints Try.underlying22 Try.underlying3 Try.cellsIntD h3
    obtain ⟨z0, z1, z2, n', _, _, k0, k1, k2⟩ := trod_struct3 Try.underlying25 h4
    simp [Try.cellsIntD, Try.cellsBoolsD] at k0 k1 k2
    obtain ⟨W', e2, _, _⟩ := DataW.trod_int Try.underlying3 k0
    obtain ⟨H', e3, _, _⟩ := DataW.trod_int Try.underlying3 k1
    obtain ⟨At, n, ct, bs, rfl, _, _, rt⟩ := rd_bools Try.underlying23 Try.underlying4 Try.cellsBool k2
    simp only [List.cons.injEq, and_true] at e0 e1 e2 e3
    subst e0 e1 e2 e3
    exact ⟨a, b, th, tr, ⟨W', H', bs⟩, Ah, nh, ch, Ar, nr, cr, At, n, ct, rfl, rh, rr, rt⟩
end Go.Proofs.Ytmajmbfbnchbfaa
/- Plain results of the operations that move cells, and small facts on cells. No program in sight. -/
namespace Go.Proofs.Ytmajmbfbnchbfaa
open Go.RowKit

/-- Facts on one cell of a grid that came in or that was made: the index, its bounds, what lies there. -/
theorem idx_bounds {a b x y : Nat} (ha : a ≤ 64) (hb : b ≤ 64) (hx : x < a) (hy : y < b) :
    0 ≤ (y : Int) * (a : Int) ∧ (y : Int) * (a : Int) ≤ 4096 ∧ (y : Int) * (a : Int) + (x : Int) < ((b * a : Nat) : Int) := by
  have h1 := Pl.cell_lt (w := a) (h := b) hx hy
  have h2 : b * a ≤ 64 * 64 := Nat.mul_le_mul hb ha
  have e : (y : Int) * (a : Int) = ((y * a : Nat) : Int) := (Int.natCast_mul y a).symm
  rw [e]
  omega

theorem bad_ret {r : Gd × Int} {k : Int} (h : r = (Gd.zero, k)) {w w' : World} (hb : Below w.heap.size w w') :
    RetG r w (.returned (.tuple #[.agg #[.int .i64 0, .int .i64 0, .slice none 0 0], .int .i64 k])) w' := by
  subst h
  exact ⟨none, 0, 0, rfl, World.ownsRow_nil _ _ _ _, hb⟩

/-- A cell that is read: its index in the grid, and what lies there. -/
theorem cell_read {w : World} {bl o i n : Nat} {bs : List Bool} (hl : bs.length = n) (hi : i < n)
    (hc : ∀ j u, (bs.map Value.bool)[j]? = some u → w.cell? ⟨bl, o + j, none⟩ = some u) : w.cell? ⟨bl, o + i, none⟩ = some (.bool (bs.getD i false)) := by
  refine hc i _ ?_
  rw [List.getElem?_map, List.getElem?_eq_getElem (by omega)]
  simp [List.getD, show i < bs.length by omega]
theorem mul_bound {p q : Int} (h1 : 0 ≤ p) (h2 : p ≤ 64) (h3 : 0 ≤ q) (h4 : q ≤ 64) : 0 ≤ p * q ∧ p * q ≤ 4096 :=
  ⟨Int.mul_nonneg h1 h3, Int.mul_le_mul (c := 64) (d := 64) h2 h4 h3 (by omega)⟩

/-- What is made of a grid without an error. -/
def withChk (g : Gd) (k : Nat → Nat → Gd × Int) : Gd × Int := if chkG g = 0 then k g.w.toNat g.h.toNat else (Gd.zero, chkG g)
theorem withChk_ok {bs : List Bool} {a b : Nat} {k : Nat → Nat → Gd × Int} (h : chk a b bs.length = 0) : withChk ⟨a, b, bs⟩ k = k a b := by
  unfold withChk; rw [if_pos (show chkG ⟨a, b, bs⟩ = 0 from h)]; simp
theorem withChk_bad {g : Gd} (h : chkG g ≠ 0) (k : Nat → Nat → Gd × Int) : withChk g k = (Gd.zero, chkG g) := if_neg h
def errG (k : Int) : Gd × Int := (Gd.zero, k)
def tabG (a b : Nat) (F : Nat → Nat → Bool) : Gd × Int := (⟨a, b, Pl.tab a b F⟩, 0)

def turnG (g : Gd) : Gd × Int := withChk g fun a b => tabG b a fun x y => g.bits.getD (x * a + y) false
def mirG (g : Gd) (axis : Int) : Gd × Int := withChk g fun a b =>
  if axis = 0 then tabG a b fun x y => g.bits.getD (y * a + (a - 1 - x)) false
  else if axis = 1 then tabG a b fun x y => g.bits.getD ((b - 1 - y) * a + x) false
  else errG 2
def tileG (g : Gd) (nx ny : Int) : Gd × Int := withChk g fun a b =>
  if nx < 1 ∨ ny < 1 then errG 2
  else if 64 / (a : Int) < nx ∨ 64 / (b : Int) < ny then errG 4
  else tabG (nx.toNat * a) (ny.toNat * b) fun x y => g.bits.getD (y % b * a + x % a) false
def partG (g : Gd) (x y w h : Int) : Gd × Int := withChk g fun a b =>
  if x < 0 ∨ y < 0 ∨ w < 1 ∨ h < 1 ∨ (a : Int) < w ∨ (b : Int) < h ∨ (a : Int) - w < x ∨ (b : Int) - h < y then errG 2
  else tabG w.toNat h.toNat fun i k => g.bits.getD ((y.toNat + k) * a + x.toNat + i) false
def shiftG (g : Gd) (dx dy : Int) : Gd × Int := withChk g fun a b =>
  tabG a b fun x y => g.bits.getD ((((y : Int) - dy) % (b : Int)).toNat * a + (((x : Int) - dx) % (a : Int)).toNat) false


end Go.Proofs.Ytmajmbfbnchbfaa
