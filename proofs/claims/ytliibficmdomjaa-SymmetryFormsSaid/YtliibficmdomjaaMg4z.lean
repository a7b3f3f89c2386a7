/- Parts of the proof, in their order. -/
import Derived.Test.YtliibficmdomjaaMg1z
import Derived.Test.YtliibficmdomjaaProg
import Derived.KernelRfl
import Derived.Test.YtliibficmdomjaaMg3z
import Derived.Test.YtliibficmdomjaaRepPz
import Derived.Test.YtliibficmdomjaaGridQz
import Derived.Test.YtliibficmdomjaaMg2z
/- Arguments of the program's own types, opened. -/
namespace Go.Proofs.Ytliibficmdomjaa
open Go.RowKit Go.ChangeShapes Go.WideShapes Go.Joins

theorem Try.cellsGrid : Try.prog.cellsOf 24 = 3 := by kernel_rfl
theorem Try.cellsBool : Try.prog.cellsOf 4 = 1 := by kernel_rfl

/-- An int64 that came in is in its range. -/
theorem wf_range {n : Int} (h : (Lit.int .i64 n).wf = true) : -9223372036854775808 ≤ n ∧ n ≤ 9223372036854775807 := by
  have hmin : IntKind.i64.min = -9223372036854775808 := rfl
  have hmax : IntKind.i64.max = 9223372036854775807 := rfl
  simp only [Lit.wf, Bool.and_eq_true, decide_eq_true_eq] at h
  omega

set_option maxRecDepth 100000 in
theorem open_grid {H : Type} {enc : TypeId × Value → H} {W : World} {base : Nat} {v : Value} {d : DataW H} {p : List MemPlace}
    (hv : Value.okWide Try.prog W .any base 24 v) (h : DataW.Trod enc Try.prog W 0 (fun _ => true) true 24 v d p) :
    ∃ (g : Gd) (A : Option Addr) (n c : Nat), v = .agg #[.int .i64 g.w, .int .i64 g.h, .slice A n c] ∧ Rd W A n (g.bits.map Value.bool) ∧ n ≤ c ∧ c ≤ maxLen ∧
      (-9223372036854775808 ≤ g.w ∧ g.w ≤ 9223372036854775807) ∧ (-9223372036854775808 ≤ g.h ∧ g.h ≤ 9223372036854775807) := by
  obtain ⟨v0, v1, v2, y0, y1, y2, m, rfl, _, _, h0, h1, h2⟩ := open_agg3 Try.underlying24 (by kernel_rfl) Try.cellsGrid hv h
  obtain ⟨a, e0, _, wa⟩ := DataW.trod_int Try.underlying3 h0
  obtain ⟨b, e1, _, wb⟩ := DataW.trod_int Try.underlying3 h1
  obtain ⟨A, n, c, bs, rfl, hn, hc, hr⟩ := rd_bools Try.underlying22 Try.underlying4 Try.cellsBool h2
  simp only [List.cons.injEq, and_true] at e0 e1
  subst e0 e1
  exact ⟨⟨a, b, bs⟩, A, n, c, rfl, hr, hn, hc, wf_range wa, wf_range wb⟩

end Go.Proofs.Ytliibficmdomjaa
/- The least form of a grid, as symmetry.Least finds it. No program in sight. -/
namespace Go.Proofs.Ytliibficmdomjaa
open Go.RowKit

/-- The first place at which two lists differ has the second one's cell up. -/
def lexB : List Bool → List Bool → Bool
  | [], _ => false
  | _ :: _, [] => false
  | p :: ps, q :: qs => if p = q then lexB ps qs else q
def beforeG (g f : Gd) : Bool := if g.w ≠ f.w then decide (g.w < f.w) else if g.h ≠ f.h then decide (g.h < f.h) else lexB g.bits f.bits
theorem lexB_drop {ps qs : List Bool} : ∀ (i : Nat), (∀ j, j < i → ps[j]? = qs[j]?) → lexB ps qs = lexB (ps.drop i) (qs.drop i)
  | 0, _ => rfl
  | i + 1, h => by
    rw [lexB_drop i (fun j hj => h j (by omega))]
    have h1 := h i (by omega)
    rcases Nat.lt_or_ge i ps.length with hp | hp
    · have hq : i < qs.length := by
        rcases Nat.lt_or_ge i qs.length with hq | hq
        · exact hq
        · rw [List.getElem?_eq_getElem hp, List.getElem?_eq_none hq] at h1; cases h1
      rw [List.getElem?_eq_getElem hp, List.getElem?_eq_getElem hq] at h1
      injection h1 with h1
      rw [List.drop_eq_getElem_cons hp, List.drop_eq_getElem_cons hq, lexB, if_pos h1]
    · rw [List.drop_eq_nil_of_le hp, List.drop_eq_nil_of_le (show ps.length ≤ i + 1 by omega), lexB, lexB]
theorem lexB_at {ps qs : List Bool} {i : Nat} {p q : Bool} (h : ∀ j, j < i → ps[j]? = qs[j]?) (hp : ps[i]? = some p) (hq : qs[i]? = some q) (hn : p ≠ q) : lexB ps qs = q := by
  obtain ⟨h1, e1⟩ := List.getElem?_eq_some_iff.1 hp
  obtain ⟨h2, e2⟩ := List.getElem?_eq_some_iff.1 hq
  rw [lexB_drop i h, List.drop_eq_getElem_cons h1, List.drop_eq_getElem_cons h2, e1, e2, lexB, if_neg hn]
theorem lexB_all {ps qs : List Bool} (h : ∀ j, j < ps.length → ps[j]? = qs[j]?) : lexB ps qs = false := by
  rw [lexB_drop ps.length h, List.drop_length, lexB]

/-- A part of the plane of a grid. -/
def winF (a b : Nat) (bs : List Bool) (x y : Nat) : Nat → Nat → Bool := fun i k => bs.getD ((y + k) % b * a + (x + i) % a) false
def winG (a b : Nat) (bs : List Bool) (x y w h : Nat) : Gd := tabD w h (winF a b bs x y)
/-- The sides of the least rectangle. -/
def recU (a b : Nat) (bs : List Bool) : Nat := latA a b bs
def recV (a b : Nat) (bs : List Bool) : Nat := latC a b bs * (latA a b bs / Nat.gcd (latA a b bs) (latB a b bs))
/-- Round after round. -/
def foldN {S : Type} (n : Nat) (f : Nat → S → S) (s : S) : S := (List.range n).foldl (fun s i => f i s) s
theorem foldN_zero {S : Type} {f : Nat → S → S} {s : S} : foldN 0 f s = s := rfl
theorem foldN_succ {S : Type} {n : Nat} {f : Nat → S → S} {s : S} : foldN (n + 1) f s = f n (foldN n f s) := by
  unfold foldN; rw [List.range_succ, List.foldl_append]; rfl
def stepL (f : Gd) (op : Nat) (s : Gd × Nat) : Gd × Nat := if beforeG f s.1 then (f, op) else s
def rowLs (a b : Nat) (bs : List Bool) (op y u v k : Nat) (s : Gd × Nat) : Gd × Nat := foldN k (fun x s => stepL (winG a b bs x y u v) op s) s
def opLs (a b : Nat) (bs : List Bool) (op u v k : Nat) (s : Gd × Nat) : Gd × Nat := foldN k (fun y s => rowLs a b bs op y u v u s) s
/-- The grid of an operation. -/
def oneD (a b : Nat) (bs : List Bool) (op : Nat) : Gd := appT (winG a b bs 0 0 (recU a b bs) (recV a b bs)) op
def allLs (a b : Nat) (bs : List Bool) (k : Nat) : Gd × Nat :=
  foldN k (fun op s => opLs (oneD a b bs op).w.toNat (oneD a b bs op).h.toNat (oneD a b bs op).bits op (recU (oneD a b bs op).w.toNat (oneD a b bs op).h.toNat (oneD a b bs op).bits) (recV (oneD a b bs op).w.toNat (oneD a b bs op).h.toNat (oneD a b bs op).bits) (recV (oneD a b bs op).w.toNat (oneD a b bs op).h.toNat (oneD a b bs op).bits) s) (winG a b bs 0 0 (recU a b bs) (recV a b bs), 0)
/-- The least form, its operation, the error. -/
def leastG (g : Gd) : (Gd × Nat) × Int := if startG g ≠ 0 then ((Gd.zero, 0), startG g) else (allLs g.w.toNat g.h.toNat g.bits 16, 0)
end Go.Proofs.Ytliibficmdomjaa
/- The plain result of Spread: a cell, spread over the plane, as a grid. -/
namespace Go.Proofs.Ytliibficmdomjaa
open Go.RowKit

/-- A cell, spread over the plane, as a grid. -/
def spreadG (g : Gd) (B W H : Int) : Gd × Int := withChk g fun a b => if B < 0 ∨ (a : Int) ≤ B ∨ W < 1 ∨ H < 1 then errG 2 else if 64 < W ∨ 64 < H then errG 4 else
  tabG W.toNat H.toNat fun x y => pl a b g.bits ((x : Int) - ((y / b * B.toNat : Nat) : Int)) (y : Int)
end Go.Proofs.Ytliibficmdomjaa
