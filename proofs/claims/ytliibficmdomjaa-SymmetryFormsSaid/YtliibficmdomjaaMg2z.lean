/- Parts of the proof, in their order. -/
import Derived.Test.YtliibficmdomjaaMg1z
import Derived.WalkKit
import Derived.Deep.RegionHeld3
/- Plain results of the operations that move cells, and small facts on cells. No program in sight. -/
namespace Go.Proofs.Ytliibficmdomjaa
open Go.RowKit

/-- Facts on one cell of a grid that came in or that was made: the index, its bounds, what lies there. -/
theorem idx_bounds {a b x y : Nat} (ha : a ≤ 64) (hb : b ≤ 64) (hx : x < a) (hy : y < b) :
    0 ≤ (y : Int) * (a : Int) ∧ (y : Int) * (a : Int) ≤ 4096 ∧ (y : Int) * (a : Int) + (x : Int) < ((b * a : Nat) : Int) := by
  have h1 := Pl.cell_lt (w := a) (h := b) hx hy
  have h2 : b * a ≤ 64 * 64 := Nat.mul_le_mul hb ha
  have e : (y : Int) * (a : Int) = ((y * a : Nat) : Int) := (Int.natCast_mul y a).symm
  rw [e]
  omega

theorem bad_ret {r : Gd × Int} {k : Int} (h : r = (Gd.zero, k)) {w w' : World} (hb : Below w.heap.size w w') :
    RetG r w (.returned (.tuple #[.agg #[.int .i64 0, .int .i64 0, .slice none 0 0], .int .i64 k])) w' := by
  subst h
  exact ⟨none, 0, 0, rfl, World.ownsRow_nil _ _ _ _, hb⟩

/-- A cell that is read: its index in the grid, and what lies there. -/
theorem cell_read {w : World} {bl o i n : Nat} {bs : List Bool} (hl : bs.length = n) (hi : i < n)
    (hc : ∀ j u, (bs.map Value.bool)[j]? = some u → w.cell? ⟨bl, o + j, none⟩ = some u) : w.cell? ⟨bl, o + i, none⟩ = some (.bool (bs.getD i false)) := by
  refine hc i _ ?_
  rw [List.getElem?_map, List.getElem?_eq_getElem (by omega)]
  simp [List.getD, show i < bs.length by omega]
theorem mul_bound {p q : Int} (h1 : 0 ≤ p) (h2 : p ≤ 64) (h3 : 0 ≤ q) (h4 : q ≤ 64) : 0 ≤ p * q ∧ p * q ≤ 4096 :=
  ⟨Int.mul_nonneg h1 h3, Int.mul_le_mul (c := 64) (d := 64) h2 h4 h3 (by omega)⟩

/-- What is made of a grid without an error. -/
def withChk (g : Gd) (k : Nat → Nat → Gd × Int) : Gd × Int := if chkG g = 0 then k g.w.toNat g.h.toNat else (Gd.zero, chkG g)
theorem withChk_ok {bs : List Bool} {a b : Nat} {k : Nat → Nat → Gd × Int} (h : chk a b bs.length = 0) : withChk ⟨a, b, bs⟩ k = k a b := by
  unfold withChk; rw [if_pos (show chkG ⟨a, b, bs⟩ = 0 from h)]; simp
theorem withChk_bad {g : Gd} (h : chkG g ≠ 0) (k : Nat → Nat → Gd × Int) : withChk g k = (Gd.zero, chkG g) := if_neg h
def errG (k : Int) : Gd × Int := (Gd.zero, k)
def tabG (a b : Nat) (F : Nat → Nat → Bool) : Gd × Int := (⟨a, b, Pl.tab a b F⟩, 0)

def turnG (g : Gd) : Gd × Int := withChk g fun a b => tabG b a fun x y => g.bits.getD (x * a + y) false
def mirG (g : Gd) (axis : Int) : Gd × Int := withChk g fun a b =>
  if axis = 0 then tabG a b fun x y => g.bits.getD (y * a + (a - 1 - x)) false
  else if axis = 1 then tabG a b fun x y => g.bits.getD ((b - 1 - y) * a + x) false
  else errG 2
def tileG (g : Gd) (nx ny : Int) : Gd × Int := withChk g fun a b =>
  if nx < 1 ∨ ny < 1 then errG 2
  else if 64 / (a : Int) < nx ∨ 64 / (b : Int) < ny then errG 4
  else tabG (nx.toNat * a) (ny.toNat * b) fun x y => g.bits.getD (y % b * a + x % a) false
def partG (g : Gd) (x y w h : Int) : Gd × Int := withChk g fun a b =>
  if x < 0 ∨ y < 0 ∨ w < 1 ∨ h < 1 ∨ (a : Int) < w ∨ (b : Int) < h ∨ (a : Int) - w < x ∨ (b : Int) - h < y then errG 2
  else tabG w.toNat h.toNat fun i k => g.bits.getD ((y.toNat + k) * a + x.toNat + i) false
def shiftG (g : Gd) (dx dy : Int) : Gd × Int := withChk g fun a b =>
  tabG a b fun x y => g.bits.getD ((((y : Int) - dy) % (b : Int)).toNat * a + (((x : Int) - dx) % (a : Int)).toNat) false


end Go.Proofs.Ytliibficmdomjaa
/- A region that draws its order, walked operation by operation, also where a guard says no. Nothing here names a function of the program. -/
namespace Go.Proofs.Ytliibficmdomjaa
open Go.RowKit

section
variable {P : Program} {md : Region.Mode} {ops : Array Oper} {Q : Exit → Act → World → Prop} {S : World → Prop} {fuel : Nat} {listed : Array Bool} {a : Act} {w : World}
/-- An operation that only reads is taken first. -/
theorem man_take (i d : Nat) {v : Value} (hd : ∃ oi, ops[i]? = some oi ∧ oi.dst = some d) (hs : Region.noSelect ops = true) (hf : Region.free md ops listed i = true) (hr : (Region.ready md ops listed).contains i = true)
    (hQ : ∀ c a w, Q (.panic c) (a.put (some d) v) w → Q (.panic c) a w) (hS : S w) (hy : ∀ oi, ops[i]? = some oi → Region.wanted oi (yielded ops a.tmps) = true ∧ ∀ w, S w → (execOp a.eval oi).run P w = .ok (.value v) w)
    (h : wpAnyH P md ops Q S fuel (listed.setIfInBounds i true) (a.put (some d) v) w) : wpAnyH P md ops Q S (fuel + 1) listed a w := by
  obtain ⟨oi, h1, h2⟩ := hd
  subst_vars
  exact wpAnyH_take h1 hs hf hr (by rw [h2]; exact hQ) (Or.inl (hy oi h1)) hS (by rw [h2]; exact h)
/-- An operation that is not wanted is passed. -/
theorem man_skip (i d : Nat) (hd : ∃ oi, ops[i]? = some oi ∧ oi.dst = some d) (hs : Region.noSelect ops = true) (hf : Region.free md ops listed i = true) (hr : (Region.ready md ops listed).contains i = true)
    (hQ : ∀ c a w, Q (.panic c) (a.put (some d) undef) w → Q (.panic c) a w) (hS : S w) (hy : ∀ oi, ops[i]? = some oi → Region.wanted oi (yielded ops a.tmps) = false)
    (h : wpAnyH P md ops Q S fuel (listed.setIfInBounds i true) (a.put (some d) undef) w) : wpAnyH P md ops Q S (fuel + 1) listed a w := by
  obtain ⟨oi, h1, h2⟩ := hd
  exact wpAnyH_take h1 hs hf hr (by rw [h2]; exact hQ) (Or.inr ⟨hy oi h1, rfl⟩) hS (by rw [h2]; exact h)
/-- The one operation that may come up is run. -/
theorem man_run (i : Nat) {o : Oper} (ho : ops[i]? = some o) (hr : Region.ready md ops listed = [i])
    (h : ∀ K' : Act → World → Prop, Shut (∀ a w, S w → (S w → wpAnyH P md ops Q S fuel (listed.setIfInBounds i true) a w) → K' a w) → if Region.wanted o (yielded ops a.tmps) = true then Oper.wp P o a w K' Q else K' (a.put o.dst undef) w) :
    wpAnyH P md ops Q S (fuel + 1) listed a w := wpAnyH_ready hr (by simp) (AllReadyH.cons ho h AllReadyH.nil)
/-- One of two operations comes up. -/
theorem man_two (i j : Nat) {o o' : Oper} (ho : ops[i]? = some o) (ho' : ops[j]? = some o') (hr : Region.ready md ops listed = [i, j])
    (h : ∀ K' : Act → World → Prop, Shut (∀ a w, S w → (S w → wpAnyH P md ops Q S fuel (listed.setIfInBounds i true) a w) → K' a w) → if Region.wanted o (yielded ops a.tmps) = true then Oper.wp P o a w K' Q else K' (a.put o.dst undef) w)
    (h' : ∀ K' : Act → World → Prop, Shut (∀ a w, S w → (S w → wpAnyH P md ops Q S fuel (listed.setIfInBounds j true) a w) → K' a w) → if Region.wanted o' (yielded ops a.tmps) = true then Oper.wp P o' a w K' Q else K' (a.put o'.dst undef) w) :
    wpAnyH P md ops Q S (fuel + 1) listed a w := wpAnyH_ready hr (by simp) (AllReadyH.cons ho h (AllReadyH.cons ho' h' AllReadyH.nil))
end
end Go.Proofs.Ytliibficmdomjaa
