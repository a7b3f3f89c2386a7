/- Parts of the proof, in their order. -/
import Derived.Test.YtliibficmdomjaaDoorMg2z
import Derived.Test.YtliibficmdomjaaDoorLibz
import Derived.Laws.OwnMore
/- An operation applied to a grid, in plain Lean: by its formula, and step by step; compositions and inverses. No program in sight. -/
namespace Go.Proofs.YtliibficmdomjaaDoor
open Go.RowKit

def appF (a b : Nat) (F : Nat → Nat → Bool) (b1 b2 b4 b8 : Bool) (x y : Nat) : Bool :=
  let u := if b4 then y else x
  let v := if b4 then x else y
  let u' := if b1 then a - 1 - u else u
  let v' := if b2 then b - 1 - v else v
  F u' v' != b8
/-- A valid grid with an operation applied. -/
def appB (a b : Nat) (F : Nat → Nat → Bool) (b1 b2 b4 b8 : Bool) : Gd :=
  ⟨((if b4 then b else a : Nat) : Int), ((if b4 then a else b : Nat) : Int), Pl.tab (if b4 then b else a) (if b4 then a else b) (appF a b F b1 b2 b4 b8)⟩
def cellF (a : Nat) (bs : List Bool) : Nat → Nat → Bool := fun x y => bs.getD (y * a + x) false
def appG (a b : Nat) (bs : List Bool) (op : Nat) : Gd := appB a b (cellF a bs) (op.testBit 0) (op.testBit 1) (op.testBit 2) (op.testBit 3)
def startG (g : Gd) : Int := if chkG g ≠ 0 then chkG g else if 16 < g.w ∨ 16 < g.h then 4 else 0
/-- An operation applied to any grid, with the error. -/
def applyG (g : Gd) (op : Int) : Gd × Int := if startG g ≠ 0 then (Gd.zero, startG g) else if op < 0 ∨ 16 ≤ op then (Gd.zero, 2) else (appG g.w.toNat g.h.toNat g.bits op.toNat, 0)

theorem tab_getD {a b x y : Nat} {F : Nat → Nat → Bool} (hx : x < a) (hy : y < b) : (Pl.tab a b F).getD (y * a + x) false = F x y := by
  rw [List.getD_eq_getElem?_getD, Pl.tab_get hx hy]; rfl
theorem chk_tab {a b : Nat} {F : Nat → Nat → Bool} (ha1 : 1 ≤ a) (hb1 : 1 ≤ b) (ha : a ≤ 64) (hb : b ≤ 64) : chk (a : Int) (b : Int) (Pl.tab a b F).length = 0 := by
  rw [Pl.tab_length]
  exact chk_ok (by omega) (by omega) (by omega) (by omega) (by rw [Int.natCast_mul, Int.mul_comm])
section
variable {a b : Nat} {F : Nat → Nat → Bool} (ha1 : 1 ≤ a) (hb1 : 1 ≤ b) (ha : a ≤ 64) (hb : b ≤ 64)
include ha1 hb1 ha hb
theorem mir0_tab : mirG ⟨a, b, Pl.tab a b F⟩ 0 = (⟨a, b, Pl.tab a b fun x y => F (a - 1 - x) y⟩, 0) := by
  unfold mirG
  rw [withChk_ok (chk_tab ha1 hb1 ha hb), if_pos rfl]
  unfold tabG
  rw [Pl.tab_congr fun x y hx hy => tab_getD (x := a - 1 - x) (by omega) hy]
theorem mir1_tab : mirG ⟨a, b, Pl.tab a b F⟩ 1 = (⟨a, b, Pl.tab a b fun x y => F x (b - 1 - y)⟩, 0) := by
  unfold mirG
  rw [withChk_ok (chk_tab ha1 hb1 ha hb), if_neg (by omega), if_pos rfl]
  unfold tabG
  rw [Pl.tab_congr fun x y hx hy => tab_getD (y := b - 1 - y) hx (by omega)]
theorem not_tab : notG ⟨a, b, Pl.tab a b F⟩ = (⟨a, b, Pl.tab a b fun x y => !F x y⟩, 0) := by
  have h : chkG ⟨(a : Int), (b : Int), Pl.tab a b F⟩ = 0 := chk_tab ha1 hb1 ha hb
  rw [notG_ok h]
  simp only [Pl.tab_map]
end
theorem turned_tab {a b : Nat} {F : Nat → Nat → Bool} : (Pl.tab b a fun x y => (Pl.tab a b F).getD (x * a + y) false) = Pl.tab b a fun x y => F y x :=
  Pl.tab_congr fun _ _ hx hy => tab_getD hy hx
theorem appG_tab {a b op : Nat} {bs : List Bool} : appG a b bs op = appB a b (cellF a bs) (op.testBit 0) (op.testBit 1) (op.testBit 2) (op.testBit 3) := rfl
theorem cell_tab {a b : Nat} {bs : List Bool} (h : bs.length = b * a) : bs = Pl.tab a b (cellF a bs) := Pl.tab_self h

/-! Compositions and inverses, as sums of bits. -/
def behindN (n : Nat) : Nat := (if n.testBit 0 then 2 else 0) + (if n.testBit 1 then 1 else 0) + (if n.testBit 2 then 4 else 0) + (if n.testBit 3 then 8 else 0)
def compN (m n : Nat) : Nat := Nat.xor m (if m.testBit 2 then behindN n else n)
def invN (n : Nat) : Nat := if n.testBit 2 then behindN n else n
def compG (m n : Int) : Int × Int := if m < 0 ∨ 16 ≤ m ∨ n < 0 ∨ 16 ≤ n then (0, 2) else ((compN m.toNat n.toNat : Nat), 0)
def invG (n : Int) : Int × Int := if n < 0 ∨ 16 ≤ n then (0, 2) else ((invN n.toNat : Nat), 0)
/-- The grid on which no two operations do the same. -/
def testG : Gd := ⟨2, 3, [true, false, false, true, false, false]⟩
def appT (g : Gd) (op : Nat) : Gd := appG g.w.toNat g.h.toNat g.bits op

theorem comp_all : ((List.range 16).all fun m => (List.range 16).all fun n => (List.range 16).all fun k => decide ((appT testG k).bits = (appT (appT testG m) n).bits ∧ (appT testG k).w = (appT (appT testG m) n).w ∧ (appT testG k).h = (appT (appT testG m) n).h) == decide (k = compN m n)) = true := by decide +kernel
theorem comp_lt : ((List.range 16).all fun m => (List.range 16).all fun n => decide (compN m n < 16)) = true := by decide +kernel
theorem inv_all : ((List.range 16).all fun m => (List.range 16).all fun n => decide (compN m n = 0) == decide (n = invN m)) = true := by decide +kernel
theorem inv_lt : ((List.range 16).all fun m => decide (invN m < 16)) = true := by decide +kernel
theorem comp_iff {m n k : Nat} (hm : m < 16) (hn : n < 16) (hk : k < 16) : appT testG k = appT (appT testG m) n ↔ k = compN m n := by
  have h := comp_all
  simp only [List.all_eq_true, List.mem_range] at h
  have h1 := h m hm n hn k hk
  rw [beq_iff_eq, decide_eq_decide] at h1
  rw [← h1]
  constructor
  · intro e; rw [e]; exact ⟨rfl, rfl, rfl⟩
  · rintro ⟨e1, e2, e3⟩
    have : ∀ g g' : Gd, g.bits = g'.bits → g.w = g'.w → g.h = g'.h → g = g' := fun g g' h1 h2 h3 => by cases g; cases g'; simp_all
    exact this _ _ e1 e2 e3
theorem compN_lt {m n : Nat} (hm : m < 16) (hn : n < 16) : compN m n < 16 := by
  have h := comp_lt
  simp only [List.all_eq_true, List.mem_range, decide_eq_true_eq] at h
  exact h m hm n hn
theorem inv_iff {m n : Nat} (hm : m < 16) (hn : n < 16) : compN m n = 0 ↔ n = invN m := by
  have h := inv_all
  simp only [List.all_eq_true, List.mem_range] at h
  have h1 := h m hm n hn
  rw [beq_iff_eq, decide_eq_decide] at h1
  exact h1
theorem invN_lt {m : Nat} (hm : m < 16) : invN m < 16 := by
  have h := inv_lt
  simp only [List.all_eq_true, List.mem_range, decide_eq_true_eq] at h
  exact h m hm
end Go.Proofs.YtliibficmdomjaaDoor
/- What stands in memory as a list of facts, carried from call to call at once. Nothing here names a function of the program. -/
namespace Go.Proofs.YtliibficmdomjaaDoor
open Go.RowKit

theorem size_alloc1 (w : World) (o : Obj) : (w.alloc o).heap.size = w.heap.size + 1 := by simp

/-- What is read at an address that is known. -/
theorem Rd.lit {w : World} {b o n : Nat} {xs : List Value} (h : Rd w (some ⟨b, o, none⟩) n xs) : ∀ j u, xs[j]? = some u → w.cell? ⟨b, o + j, none⟩ = some u := fun j u hu => by
  have hn : 0 < n := by
    have h1 := (List.getElem?_eq_some_iff.1 hu).1
    have h2 := h.1
    omega
  obtain ⟨b', o', hA, hc⟩ := h.2 hn
  injection hA with e
  injection e with e1 e2
  subst e1 e2
  exact hc j u hu

/-- A block known whole, or a slice that reads some values. -/
inductive Fact where
  | blk (g : Nat) (t : TypeId) (cs : Array Value)
  | rd (A : Option Addr) (n : Nat) (xs : List Value)
def Fact.At : Fact → World → Prop
  | .blk g t cs, w => Blk w g t cs
  | .rd A n xs, w => Rd w A n xs

theorem Fact.keep {f : Fact} {w w' : World} (h : f.At w) (hb : Below w.heap.size w w') : f.At w' := by
  cases f with
  | blk g t cs => exact Blk.keep h hb
  | rd A n xs => exact Rd.below h hb
theorem Fact.drew {f : Fact} {w : World} (h : f.At w) : f.At w.drew := by
  cases f with
  | blk g t cs => exact Blk.drew h
  | rd A n xs => exact Rd.drew h
theorem Fact.drewN {f : Fact} {w : World} (h : f.At w) (k : Nat) : f.At (w.drewN k) := by
  cases f with
  | blk g t cs => exact Blk.drewN h k
  | rd A n xs => exact Rd.drewN h k

/-- All facts of a list hold, and nothing that was there in w has turned. -/
def St (w : World) (L : List Fact) (wi : World) : Prop := Below w.heap.size w wi ∧ ∀ f ∈ L, f.At wi

section
variable {w w1 w2 : World} {L : List Fact}
theorem St.start (w : World) : St w [] w := ⟨Below.refl _ _, by simp⟩
theorem St.below (h : St w L w1) : Below w.heap.size w w1 := h.1
theorem St.size (h : St w L w1) : w.heap.size ≤ w1.heap.size := h.1.size
theorem St.keep (h : St w L w1) (hb : Below w1.heap.size w1 w2) : St w L w2 := ⟨below_then h.1 hb, fun f hf => Fact.keep (h.2 f hf) hb⟩
theorem St.drew (h : St w L w1) : St w L w1.drew := ⟨h.1.drew, fun f hf => Fact.drew (h.2 f hf)⟩
theorem St.drewN (h : St w L w1) (k : Nat) : St w L (w1.drewN k) := ⟨below_drewN h.1 k, fun f hf => Fact.drewN (h.2 f hf) k⟩
theorem St.get (h : St w L w1) (i : Nat) {f : Fact} (e : L[i]? = some f) : f.At w1 := h.2 f (List.mem_of_getElem? e)
theorem St.blk (h : St w L w1) (i : Nat) {g : Nat} {t : TypeId} {cs : Array Value} (e : L[i]? = some (.blk g t cs)) : Blk w1 g t cs := h.get i e
theorem St.rd (h : St w L w1) (i : Nat) {A : Option Addr} {n : Nat} {xs : List Value} (e : L[i]? = some (.rd A n xs)) : Rd w1 A n xs := h.get i e
theorem St.add (h : St w L w1) {f : Fact} (hf : f.At w1) : St w (L ++ [f]) w1 := ⟨h.1, fun k hk => by
  rcases List.mem_append.1 hk with h1 | h1
  · exact h.2 k h1
  · rw [List.mem_singleton.1 h1]; exact hf⟩
theorem St.addRd (h : St w L w1) {A : Option Addr} {n : Nat} {xs : List Value} (hr : Rd w1 A n xs) : St w (L ++ [.rd A n xs]) w1 := h.add (f := .rd A n xs) hr
theorem St.addBlk (h : St w L w1) {g : Nat} {t : TypeId} {cs : Array Value} (hr : Blk w1 g t cs) : St w (L ++ [.blk g t cs]) w1 := h.add (f := .blk g t cs) hr
theorem St.alloc (h : St w L w1) (o : Obj) : St w L (w1.alloc o) := h.keep ((Below.refl _ _).alloc (Nat.le_refl _) o)
theorem St.box (h : St w L w1) (cs : Array Value) (t : TypeId) : St w (L ++ [.blk w1.heap.size t cs]) (w1.alloc (.cells cs t)) := (h.alloc _).addBlk (Blk.new w1 t cs)
/-- The facts with some of these indices alone, in this order. -/
theorem St.sub (h : St w L w1) {L' : List Fact} (hs : ∀ f ∈ L', f ∈ L) : St w L' w1 := ⟨h.1, fun f hf => h.2 f (hs f hf)⟩
end
/-- A block of the call's own is a row of it. -/
theorem own_of_blk {w : World} {g base : Nat} {e : TypeId} {cs : Array Value} (h : Blk w g e cs) (hb : base ≤ g) (hm : cs.size ≤ maxLen) : w.ownsRow base e 1 (.slice (some ⟨g, 0, none⟩) cs.size cs.size) cs.size cs.toList :=
  ⟨by simp, .inr ⟨g, cs.size, cs, rfl, hb, h, Nat.le_refl _, hm, by simp, List.take_of_length_le (by simp)⟩⟩
end Go.Proofs.YtliibficmdomjaaDoor
