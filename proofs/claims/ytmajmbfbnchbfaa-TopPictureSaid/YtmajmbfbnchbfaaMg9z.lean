/- Parts of the proof, in their order. -/
import Derived.Test.YtmajmbfbnchbfaaMg3z
import Derived.Test.YtmajmbfbnchbfaaMg5z
import Derived.Laws.OwnMore
import Derived.Test.YtmajmbfbnchbfaaMg6z
import Derived.WalkKit
import Derived.Deep.RegionHeld3
/- raddleref01.At: a cell's value. -/
namespace Go.Proofs.Ytmajmbfbnchbfaa
open Go.RowKit

theorem at_any (a b x y : Nat) (l : List Bool) (H : Int) (A : Option Addr) (c : Nat) (w : World) (ha : a ≤ 64) (hb : b ≤ 64) (hx : x < a) (hy : y < b) (hr : Rd w A (b * a) (l.map Value.bool)) :
    Calls Try.prog 54 #[.agg #[.int .i64 a, .int .i64 H, .slice A (b * a) c], .int .i64 x, .int .i64 y] w fun e w' => e = .returned (.bool (l.getD (y * a + x) false)) ∧ Below w.heap.size w w' := by
  have hbs : l.length = b * a := by simpa using hr.len
  have hlt := Pl.cell_lt (w := a) (h := b) hx hy
  have hG := Blk.new w 25 #[.int .i64 a, .int .i64 H, .slice A (b * a) c]
  have hr' := hr.alloc (.cells #[.int .i64 a, .int .i64 H, .slice A (b * a) c] 25)
  have hB : Below w.heap.size w (w.alloc (.cells #[.int .i64 a, .int .i64 H, .slice A (b * a) c] 25)) := (Below.refl _ _).alloc (Nat.le_refl _) _
  obtain ⟨i0, i1, i2⟩ := idx_bounds ha hb hx hy
  obtain ⟨bl, o, rfl, hbl, hc⟩ := hr'.at_ (by omega)
  have hcell := cell_read hbs hlt hc
  generalize l.getD (y * a + x) false = p at hcell ⊢
  obtain ⟨c0, c1, c2⟩ := hG.cell3
  clear hr hr' hc hG
  go_enter Try.func54, Try.ntmps54
  go_wp2
  go_ret
  exact ⟨rfl, hB⟩

theorem at_to {v : Bool} (a b x y : Nat) (l : List Bool) (H : Int) (A : Option Addr) (c : Nat) (w : World) (h : l.getD (y * a + x) false = v) (ha : a ≤ 64) (hb : b ≤ 64) (hx : x < a) (hy : y < b) (hr : Rd w A (b * a) (l.map Value.bool)) :
    Calls Try.prog 54 #[.agg #[.int .i64 a, .int .i64 H, .slice A (b * a) c], .int .i64 x, .int .i64 y] w fun e w' => e = .returned (.bool v) ∧ Below w.heap.size w w' := h ▸ at_any a b x y l H A c w ha hb hx hy hr

end Go.Proofs.Ytmajmbfbnchbfaa
/- raddleref01.Set: a cell set in place. -/
namespace Go.Proofs.Ytmajmbfbnchbfaa
open Go.RowKit


theorem set_any (a b x y base g c : Nat) (l : List Bool) (H : Int) (up : Bool) (w : World) (ha : a ≤ 64) (hb : b ≤ 64) (hx : x < a) (hy : y < b) (ho : w.ownsRow base 4 1 (.slice (some ⟨g, 0, none⟩) (b * a) c) (b * a) (l.map Value.bool)) :
    Calls Try.prog 53 #[.agg #[.int .i64 a, .int .i64 H, .slice (some ⟨g, 0, none⟩) (b * a) c], .int .i64 x, .int .i64 y, .bool up] w fun e w' => e = .returned (.tuple #[]) ∧
      w'.ownsRow base 4 1 (.slice (some ⟨g, 0, none⟩) (b * a) c) (b * a) ((l.set (y * a + x) up).map Value.bool) ∧ w.grownBy w' (some g) := by
  have hbs : l.length = b * a := by simpa using ho.1
  have hlt := Pl.cell_lt (w := a) (h := b) hx hy
  have hG := Blk.new w 25 #[.int .i64 a, .int .i64 H, .slice (some ⟨g, 0, none⟩) (b * a) c]
  have ho' := ho.alloc (.cells #[.int .i64 a, .int .i64 H, .slice (some ⟨g, 0, none⟩) (b * a) c] 25)
  have hB : Below w.heap.size w (w.alloc (.cells #[.int .i64 a, .int .i64 H, .slice (some ⟨g, 0, none⟩) (b * a) c] 25)) := (Below.refl _ _).alloc (Nat.le_refl _) _
  obtain ⟨i0, i1, i2⟩ := idx_bounds ha hb hx hy
  obtain ⟨c0, c1, c2⟩ := hG.cell3
  have hcell := ho'.cellAt (y * a + x) (by omega)
  have hfr := ho'.frozenAt (y * a + x)
  have hst := ho'.stored (y * a + x) (.bool up)
  rw [List.getElem?_map, List.getElem?_eq_getElem (by omega)] at hcell
  simp only [Option.map_some] at hcell
  have R1 := Lib.hid hst.1
  have R2 := Lib.hid hst.2
  clear hst ho' hG
  go_enter Try.func53, Try.ntmps53
  go_wp2
  go_end0
  refine ⟨rfl, ?_, ?_⟩
  · have := R1.out
    rw [← List.map_set] at this
    exact this
  · have h2 := R2.out
    exact ⟨h2.os, h2.tape, h2.output, Nat.le_trans (by simp) h2.size, fun k hk hne => (h2.block k (by simp; omega) hne).trans (hB.block k hk)⟩
end Go.Proofs.Ytmajmbfbnchbfaa
/- A region that draws its order, walked operation by operation, also where a guard says no. Nothing here names a function of the program. -/
namespace Go.Proofs.Ytmajmbfbnchbfaa
open Go.RowKit

section
variable {P : Program} {md : Region.Mode} {ops : Array Oper} {Q : Exit → Act → World → Prop} {S : World → Prop} {fuel : Nat} {listed : Array Bool} {a : Act} {w : World}
/-- An operation that only reads is taken first. -/
theorem man_take (i d : Nat) {v : Value} (hd : ∃ oi, ops[i]? = some oi ∧ oi.dst = some d) (hs : Region.noSelect ops = true) (hf : Region.free md ops listed i = true) (hr : (Region.ready md ops listed).contains i = true)
    (hQ : ∀ c a w, Q (.panic c) (a.put (some d) v) w → Q (.panic c) a w) (hS : S w) (hy : ∀ oi, ops[i]? = some oi → Region.wanted oi (yielded ops a.tmps) = true ∧ ∀ w, S w → (execOp a.eval oi).run P w = .ok (.value v) w)
    (h : wpAnyH P md ops Q S fuel (listed.setIfInBounds i true) (a.put (some d) v) w) : wpAnyH P md ops Q S (fuel + 1) listed a w := by
  obtain ⟨oi, h1, h2⟩ := hd
  subst_vars
  exact wpAnyH_take h1 hs hf hr (by rw [h2]; exact hQ) (Or.inl (hy oi h1)) hS (by rw [h2]; exact h)
/-- An operation that is not wanted is passed. -/
theorem man_skip (i d : Nat) (hd : ∃ oi, ops[i]? = some oi ∧ oi.dst = some d) (hs : Region.noSelect ops = true) (hf : Region.free md ops listed i = true) (hr : (Region.ready md ops listed).contains i = true)
    (hQ : ∀ c a w, Q (.panic c) (a.put (some d) undef) w → Q (.panic c) a w) (hS : S w) (hy : ∀ oi, ops[i]? = some oi → Region.wanted oi (yielded ops a.tmps) = false)
    (h : wpAnyH P md ops Q S fuel (listed.setIfInBounds i true) (a.put (some d) undef) w) : wpAnyH P md ops Q S (fuel + 1) listed a w := by
  obtain ⟨oi, h1, h2⟩ := hd
  exact wpAnyH_take h1 hs hf hr (by rw [h2]; exact hQ) (Or.inr ⟨hy oi h1, rfl⟩) hS (by rw [h2]; exact h)
/-- The one operation that may come up is run. -/
theorem man_run (i : Nat) {o : Oper} (ho : ops[i]? = some o) (hr : Region.ready md ops listed = [i])
    (h : ∀ K' : Act → World → Prop, Shut (∀ a w, S w → (S w → wpAnyH P md ops Q S fuel (listed.setIfInBounds i true) a w) → K' a w) → if Region.wanted o (yielded ops a.tmps) = true then Oper.wp P o a w K' Q else K' (a.put o.dst undef) w) :
    wpAnyH P md ops Q S (fuel + 1) listed a w := wpAnyH_ready hr (by simp) (AllReadyH.cons ho h AllReadyH.nil)
/-- One of two operations comes up. -/
theorem man_two (i j : Nat) {o o' : Oper} (ho : ops[i]? = some o) (ho' : ops[j]? = some o') (hr : Region.ready md ops listed = [i, j])
    (h : ∀ K' : Act → World → Prop, Shut (∀ a w, S w → (S w → wpAnyH P md ops Q S fuel (listed.setIfInBounds i true) a w) → K' a w) → if Region.wanted o (yielded ops a.tmps) = true then Oper.wp P o a w K' Q else K' (a.put o.dst undef) w)
    (h' : ∀ K' : Act → World → Prop, Shut (∀ a w, S w → (S w → wpAnyH P md ops Q S fuel (listed.setIfInBounds j true) a w) → K' a w) → if Region.wanted o' (yielded ops a.tmps) = true then Oper.wp P o' a w K' Q else K' (a.put o'.dst undef) w) :
    wpAnyH P md ops Q S (fuel + 1) listed a w := wpAnyH_ready hr (by simp) (AllReadyH.cons ho h (AllReadyH.cons ho' h' AllReadyH.nil))
end
end Go.Proofs.Ytmajmbfbnchbfaa
