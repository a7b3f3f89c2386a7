/- Parts of the proof, in their order. -/
import Derived.Test.YtliibficmdomjaaLeastQz
import Derived.Test.YtliibficmdomjaaGroupPz
import Derived.Test.YtliibficmdomjaaSprdPz
import Derived.Test.YtliibficmdomjaaMovedPz
import Derived.Test.YtliibficmdomjaaMg3z
import Derived.Test.YtliibficmdomjaaMg9z
import Derived.BigQuiet
import Derived.BigRegion
import Derived.IntWalk
/- Planes of windows with the sides of the least rectangle; the candidates of a least form belong to the plane alone. No program in sight. -/
namespace Go.Proofs.Ytliibficmdomjaa
open Go.RowKit

section
variable {a b : Nat} {bs : List Bool} (ha : 1 ≤ a) (hb : 1 ≤ b)
include ha hb
theorem rec_per : Per a b bs (recU a b bs : Int) 0 ∧ Per a b bs 0 (recV a b bs : Int) := by
  have h := lat_is (bs := bs) ha hb
  refine ⟨h.perA ha hb, (repB_all ha hb).1 ?_⟩
  rw [lat_up ha hb h]
  unfold recV
  simp
theorem rec_pos : 1 ≤ recU a b bs ∧ 1 ≤ recV a b bs ∧ recU a b bs ∣ a ∧ recV a b bs ∣ b := by
  have h := lat_is (bs := bs) ha hb
  obtain ⟨d1, d2, d3⟩ := rect_div ha hb h
  exact ⟨h.a1, d3, d1, d2⟩
/-- The plane of a window is the plane, moved. -/
theorem pl_win (x y : Nat) (X Y : Int) : pl (recU a b bs) (recV a b bs) (winG a b bs x y (recU a b bs) (recV a b bs)).bits X Y = pl a b bs (X + (x : Int)) (Y + (y : Int)) := by
  obtain ⟨hU, hV, _, _⟩ := rec_pos (bs := bs) ha hb
  obtain ⟨pU, pV⟩ := rec_per (bs := bs) ha hb
  obtain ⟨i, k, hi, hk, e1, e2⟩ := pl_red hU hV X Y
  rw [pl_of hi hk e1 e2]
  unfold winG tabD
  rw [tabD_get hi hk]
  unfold winF
  rw [← pl_nat (Nat.mod_lt _ ha) (Nat.mod_lt _ hb)]
  have eX : X = (i : Int) + X / (recU a b bs : Int) * (recU a b bs : Int) := by
    have := Int.emod_add_mul_ediv X (recU a b bs : Int)
    rw [Int.mul_comm] at this
    omega
  have eY : Y = (k : Int) + Y / (recV a b bs : Int) * (recV a b bs : Int) := by
    have := Int.emod_add_mul_ediv Y (recV a b bs : Int)
    rw [Int.mul_comm] at this
    omega
  have q := (pU.mul (X / (recU a b bs : Int))).add (pV.mul (Y / (recV a b bs : Int))) ((i : Int) + (x : Int)) ((k : Int) + (y : Int))
  simp only [Int.mul_zero, Int.add_zero, Int.zero_add] at q
  have e3 : X + (x : Int) = (i : Int) + (x : Int) + X / (recU a b bs : Int) * (recU a b bs : Int) := by omega
  have e4 : Y + (y : Int) = (k : Int) + (y : Int) + Y / (recV a b bs : Int) * (recV a b bs : Int) := by omega
  rw [e3, e4, q]
  exact pl_congr (by rw [Int.natCast_emod, Int.emod_emod]; congr 1; omega) (by rw [Int.natCast_emod, Int.emod_emod]; congr 1; omega)
end
/-- Grids with one plane have the same sides of the least rectangle. -/
theorem rec_meets {a b a' b' : Nat} {bs bs' : List Bool} (ha : 1 ≤ a) (hb : 1 ≤ b) (ha' : 1 ≤ a') (hb' : 1 ≤ b') {dx dy : Int} (h : Meets a b bs a' b' bs' dx dy) : recU a b bs = recU a' b' bs' ∧ recV a b bs = recV a' b' bs' := by
  obtain ⟨e1, e2, e3⟩ := h.lat ha hb ha' hb'
  unfold recU recV
  rw [e1, e2, e3]
  exact ⟨rfl, rfl⟩
/-- A window shows a part of the plane. -/
theorem win_tab {a b : Nat} {bs : List Bool} (ha : 1 ≤ a) (hb : 1 ≤ b) (x y U V : Nat) : winG a b bs x y U V = tabD U V fun i k => pl a b bs ((x : Int) + (i : Int)) ((y : Int) + (k : Int)) := by
  unfold winG
  refine tabD_congr fun i k _ _ => ?_
  unfold winF
  rw [← pl_nat (Nat.mod_lt _ ha) (Nat.mod_lt _ hb)]
  exact pl_congr (by rw [Int.natCast_emod, Int.emod_emod]; congr 1) (by rw [Int.natCast_emod, Int.emod_emod]; congr 1)
end Go.Proofs.Ytliibficmdomjaa
/- symmetry.applied: a valid grid with an operation applied. -/
namespace Go.Proofs.Ytliibficmdomjaa
open Go.RowKit

theorem bits_all : ((List.range 16).all fun n => decide (bits .and .i64 (n : Int) 1 = if n.testBit 0 then 1 else 0) && decide (bits .and .i64 (n : Int) 2 = if n.testBit 1 then 2 else 0) && decide (bits .and .i64 (n : Int) 4 = if n.testBit 2 then 4 else 0) && decide (bits .and .i64 (n : Int) 8 = if n.testBit 3 then 8 else 0)) = true := by decide +kernel
theorem bits_of {n : Nat} (h : n < 16) : bits .and .i64 (n : Int) 1 = (if n.testBit 0 then 1 else 0) ∧ bits .and .i64 (n : Int) 2 = (if n.testBit 1 then 2 else 0) ∧ bits .and .i64 (n : Int) 4 = (if n.testBit 2 then 4 else 0) ∧ bits .and .i64 (n : Int) 8 = (if n.testBit 3 then 8 else 0) := by
  have k := bits_all
  simp only [List.all_eq_true, List.mem_range, Bool.and_eq_true, decide_eq_true_eq] at k
  obtain ⟨⟨⟨h1, h2⟩, h3⟩, h4⟩ := k n h
  exact ⟨h1, h2, h3, h4⟩
theorem bit1 {n : Nat} (h : n < 16) : bits .and .i64 (n : Int) 1 = (if n.testBit 0 then 1 else 0) := (bits_of h).1
theorem bit2 {n : Nat} (h : n < 16) : bits .and .i64 (n : Int) 2 = (if n.testBit 1 then 2 else 0) := (bits_of h).2.1
theorem bit4 {n : Nat} (h : n < 16) : bits .and .i64 (n : Int) 4 = (if n.testBit 2 then 4 else 0) := (bits_of h).2.2.1
theorem bit8 {n : Nat} (h : n < 16) : bits .and .i64 (n : Int) 8 = (if n.testBit 3 then 8 else 0) := (bits_of h).2.2.2

/-- What stands behind 'out.Bits = append(out.Bits, u)'. -/
theorem app_tail {w wr w3 : World} {P Q : Nat} {A' : Option Addr} {t cp g' cp' : Nat} {gc zc : Array Value} {xs xs' : List Value} {u : Value}
    (hblk : Blk wr (w.heap.size + 1 + 1) 24 #[.int .i64 P, .int .i64 Q, .slice A' t cp]) (hz : Blk wr (w.heap.size + 1) 24 zc) (hg : Blk wr w.heap.size 24 gc)
    (hown : wr.ownsRow w.heap.size 4 1 (.slice A' t cp) t xs) (hbel : Below w.heap.size w wr) (o : Obj)
    (hown3 : w3.ownsRow w.heap.size 4 1 (.slice (some ⟨g', 0, none⟩) (t + 1) cp') (t + 1) (xs' ++ [u])) (hgr3 : ((wr.alloc o).drew).grownBy w3 (Value.slice A' t cp).ownBlock) :
    Blk (w3.setCell ⟨w.heap.size + 1 + 1, 2, none⟩ (.slice (some ⟨g', 0, none⟩) (t + 1) cp')) (w.heap.size + 1 + 1) 24 #[.int .i64 P, .int .i64 Q, .slice (some ⟨g', 0, none⟩) (t + 1) cp'] ∧
    Blk (w3.setCell ⟨w.heap.size + 1 + 1, 2, none⟩ (.slice (some ⟨g', 0, none⟩) (t + 1) cp')) (w.heap.size + 1) 24 zc ∧
    Blk (w3.setCell ⟨w.heap.size + 1 + 1, 2, none⟩ (.slice (some ⟨g', 0, none⟩) (t + 1) cp')) w.heap.size 24 gc ∧
    (w3.setCell ⟨w.heap.size + 1 + 1, 2, none⟩ (.slice (some ⟨g', 0, none⟩) (t + 1) cp')).ownsRow w.heap.size 4 1 (.slice (some ⟨g', 0, none⟩) (t + 1) cp') (t + 1) (xs' ++ [u]) ∧
    Below w.heap.size w (w3.setCell ⟨w.heap.size + 1 + 1, 2, none⟩ (.slice (some ⟨g', 0, none⟩) (t + 1) cp')) := by
  have hsx := hbel.size
  have hblk3 := ((hblk.alloc o).drew).grown hgr3 (own_blk_ne hown hblk (by decide))
  have hz3 := ((hz.alloc o).drew).grown hgr3 (own_blk_ne hown hz (by decide))
  have hg3 := ((hg.alloc o).drew).grown hgr3 (own_blk_ne hown hg (by decide))
  have hbel3 : Below w.heap.size w w3 := ((hbel.alloc hsx o).drew).grown hgr3 (size_alloc_le hsx o) (fun k hk => (hown.lt k hk).1)
  refine ⟨by simpa using hblk3.set_ 2 (.slice (some ⟨g', 0, none⟩) (t + 1) cp'), hz3.far (by simp) _, hg3.far (by simp; omega) _, own_far hown3 (own_blk_ne hown3 hblk3 (by decide)) _, hbel3.setCell (by simp; omega) _⟩

theorem tab_step {P y x : Nat} {F : Nat → Nat → Bool} : (Pl.tab P y F ++ (List.range (x + 1)).map fun x => F x y).map Value.bool = (Pl.tab P y F ++ (List.range x).map fun x => F x y).map Value.bool ++ [Value.bool (F x y)] := by
  rw [List.range_succ]; simp
end Go.Proofs.Ytliibficmdomjaa
