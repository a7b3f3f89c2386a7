/- Parts of the proof, in their order. -/
import Derived.Test.YtliibficmdomjaaDoorMg3z
import Derived.Test.YtliibficmdomjaaDoorMg1z
import Derived.Test.YtliibficmdomjaaDoorMg2z
import Derived.BigQuiet
import Derived.Outline
/- An operation applied to a grid, in plain Lean: by its formula, and step by step; compositions and inverses. No program in sight. -/
namespace Go.Proofs.YtliibficmdomjaaDoor
open Go.RowKit

def appF (a b : Nat) (F : Nat → Nat → Bool) (b1 b2 b4 b8 : Bool) (x y : Nat) : Bool :=
  let u := if b4 then y else x
  let v := if b4 then x else y
  let u' := if b1 then a - 1 - u else u
  let v' := if b2 then b - 1 - v else v
  F u' v' != b8
/-- A valid grid with an operation applied. -/
def appB (a b : Nat) (F : Nat → Nat → Bool) (b1 b2 b4 b8 : Bool) : Gd :=
  ⟨((if b4 then b else a : Nat) : Int), ((if b4 then a else b : Nat) : Int), Pl.tab (if b4 then b else a) (if b4 then a else b) (appF a b F b1 b2 b4 b8)⟩
def cellF (a : Nat) (bs : List Bool) : Nat → Nat → Bool := fun x y => bs.getD (y * a + x) false
def appG (a b : Nat) (bs : List Bool) (op : Nat) : Gd := appB a b (cellF a bs) (op.testBit 0) (op.testBit 1) (op.testBit 2) (op.testBit 3)
def startG (g : Gd) : Int := if chkG g ≠ 0 then chkG g else if 16 < g.w ∨ 16 < g.h then 4 else 0
/-- An operation applied to any grid, with the error. -/
def applyG (g : Gd) (op : Int) : Gd × Int := if startG g ≠ 0 then (Gd.zero, startG g) else if op < 0 ∨ 16 ≤ op then (Gd.zero, 2) else (appG g.w.toNat g.h.toNat g.bits op.toNat, 0)

theorem tab_getD {a b x y : Nat} {F : Nat → Nat → Bool} (hx : x < a) (hy : y < b) : (Pl.tab a b F).getD (y * a + x) false = F x y := by
  rw [List.getD_eq_getElem?_getD, Pl.tab_get hx hy]; rfl
theorem chk_tab {a b : Nat} {F : Nat → Nat → Bool} (ha1 : 1 ≤ a) (hb1 : 1 ≤ b) (ha : a ≤ 64) (hb : b ≤ 64) : chk (a : Int) (b : Int) (Pl.tab a b F).length = 0 := by
  rw [Pl.tab_length]
  exact chk_ok (by omega) (by omega) (by omega) (by omega) (by rw [Int.natCast_mul, Int.mul_comm])
section
variable {a b : Nat} {F : Nat → Nat → Bool} (ha1 : 1 ≤ a) (hb1 : 1 ≤ b) (ha : a ≤ 64) (hb : b ≤ 64)
include ha1 hb1 ha hb
theorem mir0_tab : mirG ⟨a, b, Pl.tab a b F⟩ 0 = (⟨a, b, Pl.tab a b fun x y => F (a - 1 - x) y⟩, 0) := by
  unfold mirG
  rw [withChk_ok (chk_tab ha1 hb1 ha hb), if_pos rfl]
  unfold tabG
  rw [Pl.tab_congr fun x y hx hy => tab_getD (x := a - 1 - x) (by omega) hy]
theorem mir1_tab : mirG ⟨a, b, Pl.tab a b F⟩ 1 = (⟨a, b, Pl.tab a b fun x y => F x (b - 1 - y)⟩, 0) := by
  unfold mirG
  rw [withChk_ok (chk_tab ha1 hb1 ha hb), if_neg (by omega), if_pos rfl]
  unfold tabG
  rw [Pl.tab_congr fun x y hx hy => tab_getD (y := b - 1 - y) hx (by omega)]
theorem not_tab : notG ⟨a, b, Pl.tab a b F⟩ = (⟨a, b, Pl.tab a b fun x y => !F x y⟩, 0) := by
  have h : chkG ⟨(a : Int), (b : Int), Pl.tab a b F⟩ = 0 := chk_tab ha1 hb1 ha hb
  rw [notG_ok h]
  simp only [Pl.tab_map]
end
theorem turned_tab {a b : Nat} {F : Nat → Nat → Bool} : (Pl.tab b a fun x y => (Pl.tab a b F).getD (x * a + y) false) = Pl.tab b a fun x y => F y x :=
  Pl.tab_congr fun _ _ hx hy => tab_getD hy hx
theorem appG_tab {a b op : Nat} {bs : List Bool} : appG a b bs op = appB a b (cellF a bs) (op.testBit 0) (op.testBit 1) (op.testBit 2) (op.testBit 3) := rfl
theorem cell_tab {a b : Nat} {bs : List Bool} (h : bs.length = b * a) : bs = Pl.tab a b (cellF a bs) := Pl.tab_self h

/-! Compositions and inverses, as sums of bits. -/
def behindN (n : Nat) : Nat := (if n.testBit 0 then 2 else 0) + (if n.testBit 1 then 1 else 0) + (if n.testBit 2 then 4 else 0) + (if n.testBit 3 then 8 else 0)
def compN (m n : Nat) : Nat := Nat.xor m (if m.testBit 2 then behindN n else n)
def invN (n : Nat) : Nat := if n.testBit 2 then behindN n else n
def compG (m n : Int) : Int × Int := if m < 0 ∨ 16 ≤ m ∨ n < 0 ∨ 16 ≤ n then (0, 2) else ((compN m.toNat n.toNat : Nat), 0)
def invG (n : Int) : Int × Int := if n < 0 ∨ 16 ≤ n then (0, 2) else ((invN n.toNat : Nat), 0)
/-- The grid on which no two operations do the same. -/
def testG : Gd := ⟨2, 3, [true, false, false, true, false, false]⟩
def appT (g : Gd) (op : Nat) : Gd := appG g.w.toNat g.h.toNat g.bits op

theorem comp_all : ((List.range 16).all fun m => (List.range 16).all fun n => (List.range 16).all fun k => decide ((appT testG k).bits = (appT (appT testG m) n).bits ∧ (appT testG k).w = (appT (appT testG m) n).w ∧ (appT testG k).h = (appT (appT testG m) n).h) == decide (k = compN m n)) = true := by decide +kernel
theorem comp_lt : ((List.range 16).all fun m => (List.range 16).all fun n => decide (compN m n < 16)) = true := by decide +kernel
theorem inv_all : ((List.range 16).all fun m => (List.range 16).all fun n => decide (compN m n = 0) == decide (n = invN m)) = true := by decide +kernel
theorem inv_lt : ((List.range 16).all fun m => decide (invN m < 16)) = true := by decide +kernel
theorem comp_iff {m n k : Nat} (hm : m < 16) (hn : n < 16) (hk : k < 16) : appT testG k = appT (appT testG m) n ↔ k = compN m n := by
  have h := comp_all
  simp only [List.all_eq_true, List.mem_range] at h
  have h1 := h m hm n hn k hk
  rw [beq_iff_eq, decide_eq_decide] at h1
  rw [← h1]
  constructor
  · intro e; rw [e]; exact ⟨rfl, rfl, rfl⟩
  · rintro ⟨e1, e2, e3⟩
    have : ∀ g g' : Gd, g.bits = g'.bits → g.w = g'.w → g.h = g'.h → g = g' := fun g g' h1 h2 h3 => by cases g; cases g'; simp_all
    exact this _ _ e1 e2 e3
theorem compN_lt {m n : Nat} (hm : m < 16) (hn : n < 16) : compN m n < 16 := by
  have h := comp_lt
  simp only [List.all_eq_true, List.mem_range, decide_eq_true_eq] at h
  exact h m hm n hn
theorem inv_iff {m n : Nat} (hm : m < 16) (hn : n < 16) : compN m n = 0 ↔ n = invN m := by
  have h := inv_all
  simp only [List.all_eq_true, List.mem_range] at h
  have h1 := h m hm n hn
  rw [beq_iff_eq, decide_eq_decide] at h1
  exact h1
theorem invN_lt {m : Nat} (hm : m < 16) : invN m < 16 := by
  have h := inv_lt
  simp only [List.all_eq_true, List.mem_range, decide_eq_true_eq] at h
  exact h m hm
end Go.Proofs.YtliibficmdomjaaDoor
/- The text of a grid: rows from the top. No program in sight. -/
namespace Go.Proofs.YtliibficmdomjaaDoor
open Go.RowKit

def ch (b : Bool) : UInt8 := if b then 120 else 46
/-- The text of one row. -/
def rowT (l : List Bool) : List UInt8 := l.map ch ++ [10]
/-- The rows k - 1 .. 0. -/
def downT (F : Nat → List UInt8) : Nat → List UInt8
  | 0 => []
  | k + 1 => F k ++ downT F k
def rowAt (a : Nat) (bs : List Bool) (y : Nat) : List Bool := (bs.drop (y * a)).take a
def textL (a b : Nat) (bs : List Bool) : List UInt8 := downT (fun y => rowT (rowAt a bs y)) b
def textG (g : Gd) : List UInt8 × Int := if chkG g = 0 then (textL g.w.toNat g.h.toNat g.bits, 0) else ([], chkG g)
theorem textG_ok {a b : Nat} {bs : List Bool} (h : chkG ⟨a, b, bs⟩ = 0) : textG ⟨a, b, bs⟩ = (textL a b bs, 0) := by unfold textG; rw [if_pos h]; rfl
theorem textG_bad {g : Gd} (h : chkG g ≠ 0) : textG g = ([], chkG g) := if_neg h
theorem rowAt_length {a b y : Nat} {bs : List Bool} (hl : bs.length = b * a) (hy : y < b) : (rowAt a bs y).length = a := by
  unfold rowAt
  rw [List.length_take, List.length_drop, hl]
  have := Nat.mul_le_mul_right a (show y + 1 ≤ b from hy)
  rw [Nat.succ_mul] at this
  omega
theorem rowT_length (l : List Bool) : (rowT l).length = l.length + 1 := by simp [rowT]
theorem downT_length {a : Nat} {F : Nat → List UInt8} : ∀ {k : Nat}, (∀ j, j < k → (F j).length = a) → (downT F k).length = k * a
  | 0, _ => by simp [downT]
  | k + 1, h => by
    have := downT_length (a := a) (F := F) (k := k) fun j hj => h j (by omega)
    show (F k ++ downT F k).length = _
    rw [List.length_append, h k (by omega), this, Nat.succ_mul]
    omega
theorem textL_length {a b : Nat} {bs : List Bool} (hl : bs.length = b * a) : (textL a b bs).length = b * (a + 1) :=
  downT_length fun j hj => by rw [rowT_length, rowAt_length hl hj]
end Go.Proofs.YtliibficmdomjaaDoor
/- raddleref02.Same of two lists that read the same. -/
namespace Go.Proofs.YtliibficmdomjaaDoor
open Go.RowKit

set_option maxHeartbeats 1000000 in
theorem lsame_any (xs : List Int) (A A' : Option Addr) (n n' c c' : Nat) (w : World) (hr : Rd w A n (xs.map (Value.int .i64))) (hr' : Rd w A' n' (xs.map (Value.int .i64))) (hn : n ≤ 1048576) :
    Calls Tryd.prog 27 #[.slice A n c, .slice A' n' c'] w fun e w' => e = .returned (.bool true) ∧ Below w.heap.size w w' := by
  have e1 := hr.len
  have e2 := hr'.len
  obtain rfl : n' = n := by omega
  clear e2
  have HN := Lib.hid e1
  clear e1
  go_enter Tryd.func27, Tryd.ntmps27
  go_wp2_with fail
  go_loopw [5] (fun i wr => ∃ x : Nat, x ≤ n' ∧ i = .int .i64 x ∧ Below w.heap.size w wr) (fun i _ => n' - (intOf i).toNat)
  case atStart => exact ⟨0, Nat.zero_le _, rfl, Below.refl _ _⟩
  case round =>
    obtain ⟨x, hx, rfl, hb⟩ := hrel
    by_cases hlt : x < n'
    · obtain ⟨b, o, hA, _, hc⟩ := (hr.below hb).at_ (by omega)
      obtain ⟨b', o', hA', _, hc'⟩ := (hr'.below hb).at_ (by omega)
      have hl : xs.length = n' := by have := HN.out; simpa using this
      have g0 := hc x (.int .i64 (xs.getD x 0)) (by rw [List.getElem?_map, List.getElem?_eq_getElem (by omega)]; simp [List.getD, show x < xs.length by omega])
      have g1 := hc' x (.int .i64 (xs.getD x 0)) (by rw [List.getElem?_map, List.getElem?_eq_getElem (by omega)]; simp [List.getD, show x < xs.length by omega])
      generalize xs.getD x 0 = z at *
      clear hc hc' hr hr' hl
      rw [hA, hA']
      clear hA hA'
      go_wp2_with fail
      go_quiet (fail)
      go_wp2_with fail
      go_roundw
      case rel => exact ⟨x + 1, by omega, by go_num, below_drewN hb _⟩
      case measure => simp [intOf]; omega
    · go_wp2_with fail
      go_ret
      exact ⟨rfl, hb⟩
end Go.Proofs.YtliibficmdomjaaDoor
