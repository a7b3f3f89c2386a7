/- Parts of the proof, in their order. -/
import Derived.Test.YtliibficmdomjaaDoorMg3z
import Derived.Test.YtliibficmdomjaaDoorRepPz
import Derived.Test.YtliibficmdomjaaDoorMg2z
import Derived.Test.YtliibficmdomjaaDoorMg5z
import Derived.Test.YtliibficmdomjaaDoorMg6z
import Derived.BigQuiet
import Derived.BigRegion
import Derived.IntWalk
/- The least form of a grid, as symmetry.Least finds it. No program in sight. -/
namespace Go.Proofs.YtliibficmdomjaaDoor
open Go.RowKit

/-- The first place at which two lists differ has the second one's cell up. -/
def lexB : List Bool → List Bool → Bool
  | [], _ => false
  | _ :: _, [] => false
  | p :: ps, q :: qs => if p = q then lexB ps qs else q
def beforeG (g f : Gd) : Bool := if g.w ≠ f.w then decide (g.w < f.w) else if g.h ≠ f.h then decide (g.h < f.h) else lexB g.bits f.bits
theorem lexB_drop {ps qs : List Bool} : ∀ (i : Nat), (∀ j, j < i → ps[j]? = qs[j]?) → lexB ps qs = lexB (ps.drop i) (qs.drop i)
  | 0, _ => rfl
  | i + 1, h => by
    rw [lexB_drop i (fun j hj => h j (by omega))]
    have h1 := h i (by omega)
    rcases Nat.lt_or_ge i ps.length with hp | hp
    · have hq : i < qs.length := by
        rcases Nat.lt_or_ge i qs.length with hq | hq
        · exact hq
        · rw [List.getElem?_eq_getElem hp, List.getElem?_eq_none hq] at h1; cases h1
      rw [List.getElem?_eq_getElem hp, List.getElem?_eq_getElem hq] at h1
      injection h1 with h1
      rw [List.drop_eq_getElem_cons hp, List.drop_eq_getElem_cons hq, lexB, if_pos h1]
    · rw [List.drop_eq_nil_of_le hp, List.drop_eq_nil_of_le (show ps.length ≤ i + 1 by omega), lexB, lexB]
theorem lexB_at {ps qs : List Bool} {i : Nat} {p q : Bool} (h : ∀ j, j < i → ps[j]? = qs[j]?) (hp : ps[i]? = some p) (hq : qs[i]? = some q) (hn : p ≠ q) : lexB ps qs = q := by
  obtain ⟨h1, e1⟩ := List.getElem?_eq_some_iff.1 hp
  obtain ⟨h2, e2⟩ := List.getElem?_eq_some_iff.1 hq
  rw [lexB_drop i h, List.drop_eq_getElem_cons h1, List.drop_eq_getElem_cons h2, e1, e2, lexB, if_neg hn]
theorem lexB_all {ps qs : List Bool} (h : ∀ j, j < ps.length → ps[j]? = qs[j]?) : lexB ps qs = false := by
  rw [lexB_drop ps.length h, List.drop_length, lexB]

/-- A part of the plane of a grid. -/
def winF (a b : Nat) (bs : List Bool) (x y : Nat) : Nat → Nat → Bool := fun i k => bs.getD ((y + k) % b * a + (x + i) % a) false
def winG (a b : Nat) (bs : List Bool) (x y w h : Nat) : Gd := tabD w h (winF a b bs x y)
/-- The sides of the least rectangle. -/
def recU (a b : Nat) (bs : List Bool) : Nat := latA a b bs
def recV (a b : Nat) (bs : List Bool) : Nat := latC a b bs * (latA a b bs / Nat.gcd (latA a b bs) (latB a b bs))
/-- Round after round. -/
def foldN {S : Type} (n : Nat) (f : Nat → S → S) (s : S) : S := (List.range n).foldl (fun s i => f i s) s
theorem foldN_zero {S : Type} {f : Nat → S → S} {s : S} : foldN 0 f s = s := rfl
theorem foldN_succ {S : Type} {n : Nat} {f : Nat → S → S} {s : S} : foldN (n + 1) f s = f n (foldN n f s) := by
  unfold foldN; rw [List.range_succ, List.foldl_append]; rfl
def stepL (f : Gd) (op : Nat) (s : Gd × Nat) : Gd × Nat := if beforeG f s.1 then (f, op) else s
def rowLs (a b : Nat) (bs : List Bool) (op y u v k : Nat) (s : Gd × Nat) : Gd × Nat := foldN k (fun x s => stepL (winG a b bs x y u v) op s) s
def opLs (a b : Nat) (bs : List Bool) (op u v k : Nat) (s : Gd × Nat) : Gd × Nat := foldN k (fun y s => rowLs a b bs op y u v u s) s
/-- The grid of an operation. -/
def oneD (a b : Nat) (bs : List Bool) (op : Nat) : Gd := appT (winG a b bs 0 0 (recU a b bs) (recV a b bs)) op
def allLs (a b : Nat) (bs : List Bool) (k : Nat) : Gd × Nat :=
  foldN k (fun op s => opLs (oneD a b bs op).w.toNat (oneD a b bs op).h.toNat (oneD a b bs op).bits op (recU (oneD a b bs op).w.toNat (oneD a b bs op).h.toNat (oneD a b bs op).bits) (recV (oneD a b bs op).w.toNat (oneD a b bs op).h.toNat (oneD a b bs op).bits) (recV (oneD a b bs op).w.toNat (oneD a b bs op).h.toNat (oneD a b bs op).bits) s) (winG a b bs 0 0 (recU a b bs) (recV a b bs), 0)
/-- The least form, its operation, the error. -/
def leastG (g : Gd) : (Gd × Nat) × Int := if startG g ≠ 0 then ((Gd.zero, 0), startG g) else (allLs g.w.toNat g.h.toNat g.bits 16, 0)
end Go.Proofs.YtliibficmdomjaaDoor
/- symmetry.applied: a valid grid with an operation applied. -/
namespace Go.Proofs.YtliibficmdomjaaDoor
open Go.RowKit

theorem bits_all : ((List.range 16).all fun n => decide (bits .and .i64 (n : Int) 1 = if n.testBit 0 then 1 else 0) && decide (bits .and .i64 (n : Int) 2 = if n.testBit 1 then 2 else 0) && decide (bits .and .i64 (n : Int) 4 = if n.testBit 2 then 4 else 0) && decide (bits .and .i64 (n : Int) 8 = if n.testBit 3 then 8 else 0)) = true := by decide +kernel
theorem bits_of {n : Nat} (h : n < 16) : bits .and .i64 (n : Int) 1 = (if n.testBit 0 then 1 else 0) ∧ bits .and .i64 (n : Int) 2 = (if n.testBit 1 then 2 else 0) ∧ bits .and .i64 (n : Int) 4 = (if n.testBit 2 then 4 else 0) ∧ bits .and .i64 (n : Int) 8 = (if n.testBit 3 then 8 else 0) := by
  have k := bits_all
  simp only [List.all_eq_true, List.mem_range, Bool.and_eq_true, decide_eq_true_eq] at k
  obtain ⟨⟨⟨h1, h2⟩, h3⟩, h4⟩ := k n h
  exact ⟨h1, h2, h3, h4⟩
theorem bit1 {n : Nat} (h : n < 16) : bits .and .i64 (n : Int) 1 = (if n.testBit 0 then 1 else 0) := (bits_of h).1
theorem bit2 {n : Nat} (h : n < 16) : bits .and .i64 (n : Int) 2 = (if n.testBit 1 then 2 else 0) := (bits_of h).2.1
theorem bit4 {n : Nat} (h : n < 16) : bits .and .i64 (n : Int) 4 = (if n.testBit 2 then 4 else 0) := (bits_of h).2.2.1
theorem bit8 {n : Nat} (h : n < 16) : bits .and .i64 (n : Int) 8 = (if n.testBit 3 then 8 else 0) := (bits_of h).2.2.2

/-- What stands behind 'out.Bits = append(out.Bits, u)'. -/
theorem app_tail {w wr w3 : World} {P Q : Nat} {A' : Option Addr} {t cp g' cp' : Nat} {gc zc : Array Value} {xs xs' : List Value} {u : Value}
    (hblk : Blk wr (w.heap.size + 1 + 1) 24 #[.int .i64 P, .int .i64 Q, .slice A' t cp]) (hz : Blk wr (w.heap.size + 1) 24 zc) (hg : Blk wr w.heap.size 24 gc)
    (hown : wr.ownsRow w.heap.size 4 1 (.slice A' t cp) t xs) (hbel : Below w.heap.size w wr) (o : Obj)
    (hown3 : w3.ownsRow w.heap.size 4 1 (.slice (some ⟨g', 0, none⟩) (t + 1) cp') (t + 1) (xs' ++ [u])) (hgr3 : ((wr.alloc o).drew).grownBy w3 (Value.slice A' t cp).ownBlock) :
    Blk (w3.setCell ⟨w.heap.size + 1 + 1, 2, none⟩ (.slice (some ⟨g', 0, none⟩) (t + 1) cp')) (w.heap.size + 1 + 1) 24 #[.int .i64 P, .int .i64 Q, .slice (some ⟨g', 0, none⟩) (t + 1) cp'] ∧
    Blk (w3.setCell ⟨w.heap.size + 1 + 1, 2, none⟩ (.slice (some ⟨g', 0, none⟩) (t + 1) cp')) (w.heap.size + 1) 24 zc ∧
    Blk (w3.setCell ⟨w.heap.size + 1 + 1, 2, none⟩ (.slice (some ⟨g', 0, none⟩) (t + 1) cp')) w.heap.size 24 gc ∧
    (w3.setCell ⟨w.heap.size + 1 + 1, 2, none⟩ (.slice (some ⟨g', 0, none⟩) (t + 1) cp')).ownsRow w.heap.size 4 1 (.slice (some ⟨g', 0, none⟩) (t + 1) cp') (t + 1) (xs' ++ [u]) ∧
    Below w.heap.size w (w3.setCell ⟨w.heap.size + 1 + 1, 2, none⟩ (.slice (some ⟨g', 0, none⟩) (t + 1) cp')) := by
  have hsx := hbel.size
  have hblk3 := ((hblk.alloc o).drew).grown hgr3 (own_blk_ne hown hblk (by decide))
  have hz3 := ((hz.alloc o).drew).grown hgr3 (own_blk_ne hown hz (by decide))
  have hg3 := ((hg.alloc o).drew).grown hgr3 (own_blk_ne hown hg (by decide))
  have hbel3 : Below w.heap.size w w3 := ((hbel.alloc hsx o).drew).grown hgr3 (size_alloc_le hsx o) (fun k hk => (hown.lt k hk).1)
  refine ⟨by simpa using hblk3.set_ 2 (.slice (some ⟨g', 0, none⟩) (t + 1) cp'), hz3.far (by simp) _, hg3.far (by simp; omega) _, own_far hown3 (own_blk_ne hown3 hblk3 (by decide)) _, hbel3.setCell (by simp; omega) _⟩

theorem tab_step {P y x : Nat} {F : Nat → Nat → Bool} : (Pl.tab P y F ++ (List.range (x + 1)).map fun x => F x y).map Value.bool = (Pl.tab P y F ++ (List.range x).map fun x => F x y).map Value.bool ++ [Value.bool (F x y)] := by
  rw [List.range_succ]; simp
end Go.Proofs.YtliibficmdomjaaDoor
