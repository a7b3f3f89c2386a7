/- Parts of the proof, in their order. -/
import Derived.Test.YtliibficmdomjaaDoorMg4z
import Derived.Test.YtliibficmdomjaaDoorMg3z
import Derived.Test.YtliibficmdomjaaDoorMg8z
import Derived.BigQuiet
import Derived.BigRegion
import Derived.IntWalk
import Derived.WalkKit
import Derived.Deep.RegionHeld3
/- symmetry.applied: a valid grid with an operation applied. -/
namespace Go.Proofs.YtliibficmdomjaaDoor
open Go.RowKit

theorem bits_all : ((List.range 16).all fun n => decide (bits .and .i64 (n : Int) 1 = if n.testBit 0 then 1 else 0) && decide (bits .and .i64 (n : Int) 2 = if n.testBit 1 then 2 else 0) && decide (bits .and .i64 (n : Int) 4 = if n.testBit 2 then 4 else 0) && decide (bits .and .i64 (n : Int) 8 = if n.testBit 3 then 8 else 0)) = true := by decide +kernel
theorem bits_of {n : Nat} (h : n < 16) : bits .and .i64 (n : Int) 1 = (if n.testBit 0 then 1 else 0) ∧ bits .and .i64 (n : Int) 2 = (if n.testBit 1 then 2 else 0) ∧ bits .and .i64 (n : Int) 4 = (if n.testBit 2 then 4 else 0) ∧ bits .and .i64 (n : Int) 8 = (if n.testBit 3 then 8 else 0) := by
  have k := bits_all
  simp only [List.all_eq_true, List.mem_range, Bool.and_eq_true, decide_eq_true_eq] at k
  obtain ⟨⟨⟨h1, h2⟩, h3⟩, h4⟩ := k n h
  exact ⟨h1, h2, h3, h4⟩
theorem bit1 {n : Nat} (h : n < 16) : bits .and .i64 (n : Int) 1 = (if n.testBit 0 then 1 else 0) := (bits_of h).1
theorem bit2 {n : Nat} (h : n < 16) : bits .and .i64 (n : Int) 2 = (if n.testBit 1 then 2 else 0) := (bits_of h).2.1
theorem bit4 {n : Nat} (h : n < 16) : bits .and .i64 (n : Int) 4 = (if n.testBit 2 then 4 else 0) := (bits_of h).2.2.1
theorem bit8 {n : Nat} (h : n < 16) : bits .and .i64 (n : Int) 8 = (if n.testBit 3 then 8 else 0) := (bits_of h).2.2.2

/-- What stands behind 'out.Bits = append(out.Bits, u)'. -/
theorem app_tail {w wr w3 : World} {P Q : Nat} {A' : Option Addr} {t cp g' cp' : Nat} {gc zc : Array Value} {xs xs' : List Value} {u : Value}
    (hblk : Blk wr (w.heap.size + 1 + 1) 24 #[.int .i64 P, .int .i64 Q, .slice A' t cp]) (hz : Blk wr (w.heap.size + 1) 24 zc) (hg : Blk wr w.heap.size 24 gc)
    (hown : wr.ownsRow w.heap.size 4 1 (.slice A' t cp) t xs) (hbel : Below w.heap.size w wr) (o : Obj)
    (hown3 : w3.ownsRow w.heap.size 4 1 (.slice (some ⟨g', 0, none⟩) (t + 1) cp') (t + 1) (xs' ++ [u])) (hgr3 : ((wr.alloc o).drew).grownBy w3 (Value.slice A' t cp).ownBlock) :
    Blk (w3.setCell ⟨w.heap.size + 1 + 1, 2, none⟩ (.slice (some ⟨g', 0, none⟩) (t + 1) cp')) (w.heap.size + 1 + 1) 24 #[.int .i64 P, .int .i64 Q, .slice (some ⟨g', 0, none⟩) (t + 1) cp'] ∧
    Blk (w3.setCell ⟨w.heap.size + 1 + 1, 2, none⟩ (.slice (some ⟨g', 0, none⟩) (t + 1) cp')) (w.heap.size + 1) 24 zc ∧
    Blk (w3.setCell ⟨w.heap.size + 1 + 1, 2, none⟩ (.slice (some ⟨g', 0, none⟩) (t + 1) cp')) w.heap.size 24 gc ∧
    (w3.setCell ⟨w.heap.size + 1 + 1, 2, none⟩ (.slice (some ⟨g', 0, none⟩) (t + 1) cp')).ownsRow w.heap.size 4 1 (.slice (some ⟨g', 0, none⟩) (t + 1) cp') (t + 1) (xs' ++ [u]) ∧
    Below w.heap.size w (w3.setCell ⟨w.heap.size + 1 + 1, 2, none⟩ (.slice (some ⟨g', 0, none⟩) (t + 1) cp')) := by
  have hsx := hbel.size
  have hblk3 := ((hblk.alloc o).drew).grown hgr3 (own_blk_ne hown hblk (by decide))
  have hz3 := ((hz.alloc o).drew).grown hgr3 (own_blk_ne hown hz (by decide))
  have hg3 := ((hg.alloc o).drew).grown hgr3 (own_blk_ne hown hg (by decide))
  have hbel3 : Below w.heap.size w w3 := ((hbel.alloc hsx o).drew).grown hgr3 (size_alloc_le hsx o) (fun k hk => (hown.lt k hk).1)
  refine ⟨by simpa using hblk3.set_ 2 (.slice (some ⟨g', 0, none⟩) (t + 1) cp'), hz3.far (by simp) _, hg3.far (by simp; omega) _, own_far hown3 (own_blk_ne hown3 hblk3 (by decide)) _, hbel3.setCell (by simp; omega) _⟩

theorem tab_step {P y x : Nat} {F : Nat → Nat → Bool} : (Pl.tab P y F ++ (List.range (x + 1)).map fun x => F x y).map Value.bool = (Pl.tab P y F ++ (List.range x).map fun x => F x y).map Value.bool ++ [Value.bool (F x y)] := by
  rw [List.range_succ]; simp
end Go.Proofs.YtliibficmdomjaaDoor
/- A region that draws its order, walked operation by operation, also where a guard says no. Nothing here names a function of the program. -/
namespace Go.Proofs.YtliibficmdomjaaDoor
open Go.RowKit

section
variable {P : Program} {md : Region.Mode} {ops : Array Oper} {Q : Exit → Act → World → Prop} {S : World → Prop} {fuel : Nat} {listed : Array Bool} {a : Act} {w : World}
/-- An operation that only reads is taken first. -/
theorem man_take (i d : Nat) {v : Value} (hd : ∃ oi, ops[i]? = some oi ∧ oi.dst = some d) (hs : Region.noSelect ops = true) (hf : Region.free md ops listed i = true) (hr : (Region.ready md ops listed).contains i = true)
    (hQ : ∀ c a w, Q (.panic c) (a.put (some d) v) w → Q (.panic c) a w) (hS : S w) (hy : ∀ oi, ops[i]? = some oi → Region.wanted oi (yielded ops a.tmps) = true ∧ ∀ w, S w → (execOp a.eval oi).run P w = .ok (.value v) w)
    (h : wpAnyH P md ops Q S fuel (listed.setIfInBounds i true) (a.put (some d) v) w) : wpAnyH P md ops Q S (fuel + 1) listed a w := by
  obtain ⟨oi, h1, h2⟩ := hd
  subst_vars
  exact wpAnyH_take h1 hs hf hr (by rw [h2]; exact hQ) (Or.inl (hy oi h1)) hS (by rw [h2]; exact h)
/-- An operation that is not wanted is passed. -/
theorem man_skip (i d : Nat) (hd : ∃ oi, ops[i]? = some oi ∧ oi.dst = some d) (hs : Region.noSelect ops = true) (hf : Region.free md ops listed i = true) (hr : (Region.ready md ops listed).contains i = true)
    (hQ : ∀ c a w, Q (.panic c) (a.put (some d) undef) w → Q (.panic c) a w) (hS : S w) (hy : ∀ oi, ops[i]? = some oi → Region.wanted oi (yielded ops a.tmps) = false)
    (h : wpAnyH P md ops Q S fuel (listed.setIfInBounds i true) (a.put (some d) undef) w) : wpAnyH P md ops Q S (fuel + 1) listed a w := by
  obtain ⟨oi, h1, h2⟩ := hd
  exact wpAnyH_take h1 hs hf hr (by rw [h2]; exact hQ) (Or.inr ⟨hy oi h1, rfl⟩) hS (by rw [h2]; exact h)
/-- The one operation that may come up is run. -/
theorem man_run (i : Nat) {o : Oper} (ho : ops[i]? = some o) (hr : Region.ready md ops listed = [i])
    (h : ∀ K' : Act → World → Prop, Shut (∀ a w, S w → (S w → wpAnyH P md ops Q S fuel (listed.setIfInBounds i true) a w) → K' a w) → if Region.wanted o (yielded ops a.tmps) = true then Oper.wp P o a w K' Q else K' (a.put o.dst undef) w) :
    wpAnyH P md ops Q S (fuel + 1) listed a w := wpAnyH_ready hr (by simp) (AllReadyH.cons ho h AllReadyH.nil)
/-- One of two operations comes up. -/
theorem man_two (i j : Nat) {o o' : Oper} (ho : ops[i]? = some o) (ho' : ops[j]? = some o') (hr : Region.ready md ops listed = [i, j])
    (h : ∀ K' : Act → World → Prop, Shut (∀ a w, S w → (S w → wpAnyH P md ops Q S fuel (listed.setIfInBounds i true) a w) → K' a w) → if Region.wanted o (yielded ops a.tmps) = true then Oper.wp P o a w K' Q else K' (a.put o.dst undef) w)
    (h' : ∀ K' : Act → World → Prop, Shut (∀ a w, S w → (S w → wpAnyH P md ops Q S fuel (listed.setIfInBounds j true) a w) → K' a w) → if Region.wanted o' (yielded ops a.tmps) = true then Oper.wp P o' a w K' Q else K' (a.put o'.dst undef) w) :
    wpAnyH P md ops Q S (fuel + 1) listed a w := wpAnyH_ready hr (by simp) (AllReadyH.cons ho h (AllReadyH.cons ho' h' AllReadyH.nil))
end
end Go.Proofs.YtliibficmdomjaaDoor
