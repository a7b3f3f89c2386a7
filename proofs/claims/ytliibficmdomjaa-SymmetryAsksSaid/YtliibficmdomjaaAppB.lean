/- symmetry.applied: a valid grid with an operation applied. -/
import Derived.Test.YtliibficmdomjaaAppP
import Derived.Test.YtliibficmdomjaaInfoB
import Derived.Test.YtliibficmdomjaaRd2
import Derived.BigQuiet
import Derived.BigRegion
import Derived.IntWalk
namespace Go.Proofs.Ytliibficmdomjaa
open Go.RowKit

theorem bits_all : ((List.range 16).all fun n => decide (bits .and .i64 (n : Int) 1 = if n.testBit 0 then 1 else 0) && decide (bits .and .i64 (n : Int) 2 = if n.testBit 1 then 2 else 0) && decide (bits .and .i64 (n : Int) 4 = if n.testBit 2 then 4 else 0) && decide (bits .and .i64 (n : Int) 8 = if n.testBit 3 then 8 else 0)) = true := by decide +kernel
theorem bits_of {n : Nat} (h : n < 16) : bits .and .i64 (n : Int) 1 = (if n.testBit 0 then 1 else 0) ∧ bits .and .i64 (n : Int) 2 = (if n.testBit 1 then 2 else 0) ∧ bits .and .i64 (n : Int) 4 = (if n.testBit 2 then 4 else 0) ∧ bits .and .i64 (n : Int) 8 = (if n.testBit 3 then 8 else 0) := by
  have k := bits_all
  simp only [List.all_eq_true, List.mem_range, Bool.and_eq_true, decide_eq_true_eq] at k
  obtain ⟨⟨⟨h1, h2⟩, h3⟩, h4⟩ := k n h
  exact ⟨h1, h2, h3, h4⟩
theorem bit1 {n : Nat} (h : n < 16) : bits .and .i64 (n : Int) 1 = (if n.testBit 0 then 1 else 0) := (bits_of h).1
theorem bit2 {n : Nat} (h : n < 16) : bits .and .i64 (n : Int) 2 = (if n.testBit 1 then 2 else 0) := (bits_of h).2.1
theorem bit4 {n : Nat} (h : n < 16) : bits .and .i64 (n : Int) 4 = (if n.testBit 2 then 4 else 0) := (bits_of h).2.2.1
theorem bit8 {n : Nat} (h : n < 16) : bits .and .i64 (n : Int) 8 = (if n.testBit 3 then 8 else 0) := (bits_of h).2.2.2

/-- What stands behind 'out.Bits = append(out.Bits, u)'. -/
theorem app_tail {w wr w3 : World} {P Q : Nat} {A' : Option Addr} {t cp g' cp' : Nat} {gc zc : Array Value} {xs xs' : List Value} {u : Value}
    (hblk : Blk wr (w.heap.size + 1 + 1) 24 #[.int .i64 P, .int .i64 Q, .slice A' t cp]) (hz : Blk wr (w.heap.size + 1) 24 zc) (hg : Blk wr w.heap.size 24 gc)
    (hown : wr.ownsRow w.heap.size 4 1 (.slice A' t cp) t xs) (hbel : Below w.heap.size w wr) (o : Obj)
    (hown3 : w3.ownsRow w.heap.size 4 1 (.slice (some ⟨g', 0, none⟩) (t + 1) cp') (t + 1) (xs' ++ [u])) (hgr3 : ((wr.alloc o).drew).grownBy w3 (Value.slice A' t cp).ownBlock) :
    Blk (w3.setCell ⟨w.heap.size + 1 + 1, 2, none⟩ (.slice (some ⟨g', 0, none⟩) (t + 1) cp')) (w.heap.size + 1 + 1) 24 #[.int .i64 P, .int .i64 Q, .slice (some ⟨g', 0, none⟩) (t + 1) cp'] ∧
    Blk (w3.setCell ⟨w.heap.size + 1 + 1, 2, none⟩ (.slice (some ⟨g', 0, none⟩) (t + 1) cp')) (w.heap.size + 1) 24 zc ∧
    Blk (w3.setCell ⟨w.heap.size + 1 + 1, 2, none⟩ (.slice (some ⟨g', 0, none⟩) (t + 1) cp')) w.heap.size 24 gc ∧
    (w3.setCell ⟨w.heap.size + 1 + 1, 2, none⟩ (.slice (some ⟨g', 0, none⟩) (t + 1) cp')).ownsRow w.heap.size 4 1 (.slice (some ⟨g', 0, none⟩) (t + 1) cp') (t + 1) (xs' ++ [u]) ∧
    Below w.heap.size w (w3.setCell ⟨w.heap.size + 1 + 1, 2, none⟩ (.slice (some ⟨g', 0, none⟩) (t + 1) cp')) := by
  have hsx := hbel.size
  have hblk3 := ((hblk.alloc o).drew).grown hgr3 (own_blk_ne hown hblk (by decide))
  have hz3 := ((hz.alloc o).drew).grown hgr3 (own_blk_ne hown hz (by decide))
  have hg3 := ((hg.alloc o).drew).grown hgr3 (own_blk_ne hown hg (by decide))
  have hbel3 : Below w.heap.size w w3 := ((hbel.alloc hsx o).drew).grown hgr3 (size_alloc_le hsx o) (fun k hk => (hown.lt k hk).1)
  refine ⟨by simpa using hblk3.set_ 2 (.slice (some ⟨g', 0, none⟩) (t + 1) cp'), hz3.far (by simp) _, hg3.far (by simp; omega) _, own_far hown3 (own_blk_ne hown3 hblk3 (by decide)) _, hbel3.setCell (by simp; omega) _⟩

theorem tab_step {P y x : Nat} {F : Nat → Nat → Bool} : (Pl.tab P y F ++ (List.range (x + 1)).map fun x => F x y).map Value.bool = (Pl.tab P y F ++ (List.range x).map fun x => F x y).map Value.bool ++ [Value.bool (F x y)] := by
  rw [List.range_succ]; simp
end Go.Proofs.Ytliibficmdomjaa
