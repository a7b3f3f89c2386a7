/- Parts of the proof, in their order. -/
import Derived.Test.YtliibficmdomjaaMg2z
/- An operation applied to a grid, in plain Lean: by its formula, and step by step; compositions and inverses. No program in sight. -/
namespace Go.Proofs.Ytliibficmdomjaa
open Go.RowKit

def appF (a b : Nat) (F : Nat → Nat → Bool) (b1 b2 b4 b8 : Bool) (x y : Nat) : Bool :=
  let u := if b4 then y else x
  let v := if b4 then x else y
  let u' := if b1 then a - 1 - u else u
  let v' := if b2 then b - 1 - v else v
  F u' v' != b8
/-- A valid grid with an operation applied. -/
def appB (a b : Nat) (F : Nat → Nat → Bool) (b1 b2 b4 b8 : Bool) : Gd :=
  ⟨((if b4 then b else a : Nat) : Int), ((if b4 then a else b : Nat) : Int), Pl.tab (if b4 then b else a) (if b4 then a else b) (appF a b F b1 b2 b4 b8)⟩
def cellF (a : Nat) (bs : List Bool) : Nat → Nat → Bool := fun x y => bs.getD (y * a + x) false
def appG (a b : Nat) (bs : List Bool) (op : Nat) : Gd := appB a b (cellF a bs) (op.testBit 0) (op.testBit 1) (op.testBit 2) (op.testBit 3)
def startG (g : Gd) : Int := if chkG g ≠ 0 then chkG g else if 16 < g.w ∨ 16 < g.h then 4 else 0
/-- An operation applied to any grid, with the error. -/
def applyG (g : Gd) (op : Int) : Gd × Int := if startG g ≠ 0 then (Gd.zero, startG g) else if op < 0 ∨ 16 ≤ op then (Gd.zero, 2) else (appG g.w.toNat g.h.toNat g.bits op.toNat, 0)

theorem tab_getD {a b x y : Nat} {F : Nat → Nat → Bool} (hx : x < a) (hy : y < b) : (Pl.tab a b F).getD (y * a + x) false = F x y := by
  rw [List.getD_eq_getElem?_getD, Pl.tab_get hx hy]; rfl
theorem chk_tab {a b : Nat} {F : Nat → Nat → Bool} (ha1 : 1 ≤ a) (hb1 : 1 ≤ b) (ha : a ≤ 64) (hb : b ≤ 64) : chk (a : Int) (b : Int) (Pl.tab a b F).length = 0 := by
  rw [Pl.tab_length]
  exact chk_ok (by omega) (by omega) (by omega) (by omega) (by rw [Int.natCast_mul, Int.mul_comm])
section
variable {a b : Nat} {F : Nat → Nat → Bool} (ha1 : 1 ≤ a) (hb1 : 1 ≤ b) (ha : a ≤ 64) (hb : b ≤ 64)
include ha1 hb1 ha hb
theorem mir0_tab : mirG ⟨a, b, Pl.tab a b F⟩ 0 = (⟨a, b, Pl.tab a b fun x y => F (a - 1 - x) y⟩, 0) := by
  unfold mirG
  rw [withChk_ok (chk_tab ha1 hb1 ha hb), if_pos rfl]
  unfold tabG
  rw [Pl.tab_congr fun x y hx hy => tab_getD (x := a - 1 - x) (by omega) hy]
theorem mir1_tab : mirG ⟨a, b, Pl.tab a b F⟩ 1 = (⟨a, b, Pl.tab a b fun x y => F x (b - 1 - y)⟩, 0) := by
  unfold mirG
  rw [withChk_ok (chk_tab ha1 hb1 ha hb), if_neg (by omega), if_pos rfl]
  unfold tabG
  rw [Pl.tab_congr fun x y hx hy => tab_getD (y := b - 1 - y) hx (by omega)]
theorem not_tab : notG ⟨a, b, Pl.tab a b F⟩ = (⟨a, b, Pl.tab a b fun x y => !F x y⟩, 0) := by
  have h : chkG ⟨(a : Int), (b : Int), Pl.tab a b F⟩ = 0 := chk_tab ha1 hb1 ha hb
  rw [notG_ok h]
  simp only [Pl.tab_map]
end
theorem turned_tab {a b : Nat} {F : Nat → Nat → Bool} : (Pl.tab b a fun x y => (Pl.tab a b F).getD (x * a + y) false) = Pl.tab b a fun x y => F y x :=
  Pl.tab_congr fun _ _ hx hy => tab_getD hy hx
theorem appG_tab {a b op : Nat} {bs : List Bool} : appG a b bs op = appB a b (cellF a bs) (op.testBit 0) (op.testBit 1) (op.testBit 2) (op.testBit 3) := rfl
theorem cell_tab {a b : Nat} {bs : List Bool} (h : bs.length = b * a) : bs = Pl.tab a b (cellF a bs) := Pl.tab_self h

/-! Compositions and inverses, as sums of bits. -/
def behindN (n : Nat) : Nat := (if n.testBit 0 then 2 else 0) + (if n.testBit 1 then 1 else 0) + (if n.testBit 2 then 4 else 0) + (if n.testBit 3 then 8 else 0)
def compN (m n : Nat) : Nat := Nat.xor m (if m.testBit 2 then behindN n else n)
def invN (n : Nat) : Nat := if n.testBit 2 then behindN n else n
def compG (m n : Int) : Int × Int := if m < 0 ∨ 16 ≤ m ∨ n < 0 ∨ 16 ≤ n then (0, 2) else ((compN m.toNat n.toNat : Nat), 0)
def invG (n : Int) : Int × Int := if n < 0 ∨ 16 ≤ n then (0, 2) else ((invN n.toNat : Nat), 0)
/-- The grid on which no two operations do the same. -/
def testG : Gd := ⟨2, 3, [true, false, false, true, false, false]⟩
def appT (g : Gd) (op : Nat) : Gd := appG g.w.toNat g.h.toNat g.bits op

theorem comp_all : ((List.range 16).all fun m => (List.range 16).all fun n => (List.range 16).all fun k => decide ((appT testG k).bits = (appT (appT testG m) n).bits ∧ (appT testG k).w = (appT (appT testG m) n).w ∧ (appT testG k).h = (appT (appT testG m) n).h) == decide (k = compN m n)) = true := by decide +kernel
theorem comp_lt : ((List.range 16).all fun m => (List.range 16).all fun n => decide (compN m n < 16)) = true := by decide +kernel
theorem inv_all : ((List.range 16).all fun m => (List.range 16).all fun n => decide (compN m n = 0) == decide (n = invN m)) = true := by decide +kernel
theorem inv_lt : ((List.range 16).all fun m => decide (invN m < 16)) = true := by decide +kernel
theorem comp_iff {m n k : Nat} (hm : m < 16) (hn : n < 16) (hk : k < 16) : appT testG k = appT (appT testG m) n ↔ k = compN m n := by
  have h := comp_all
  simp only [List.all_eq_true, List.mem_range] at h
  have h1 := h m hm n hn k hk
  rw [beq_iff_eq, decide_eq_decide] at h1
  rw [← h1]
  constructor
  · intro e; rw [e]; exact ⟨rfl, rfl, rfl⟩
  · rintro ⟨e1, e2, e3⟩
    have : ∀ g g' : Gd, g.bits = g'.bits → g.w = g'.w → g.h = g'.h → g = g' := fun g g' h1 h2 h3 => by cases g; cases g'; simp_all
    exact this _ _ e1 e2 e3
theorem compN_lt {m n : Nat} (hm : m < 16) (hn : n < 16) : compN m n < 16 := by
  have h := comp_lt
  simp only [List.all_eq_true, List.mem_range, decide_eq_true_eq] at h
  exact h m hm n hn
theorem inv_iff {m n : Nat} (hm : m < 16) (hn : n < 16) : compN m n = 0 ↔ n = invN m := by
  have h := inv_all
  simp only [List.all_eq_true, List.mem_range] at h
  have h1 := h m hm n hn
  rw [beq_iff_eq, decide_eq_decide] at h1
  exact h1
theorem invN_lt {m : Nat} (hm : m < 16) : invN m < 16 := by
  have h := inv_lt
  simp only [List.all_eq_true, List.mem_range, decide_eq_true_eq] at h
  exact h m hm
end Go.Proofs.Ytliibficmdomjaa
/- Operations one after the other, and their compositions. No program in sight. -/
namespace Go.Proofs.Ytliibficmdomjaa
open Go.RowKit

theorem appB_congr {a b : Nat} {F G : Nat → Nat → Bool} (h : ∀ x y, x < a → y < b → F x y = G x y) (b1 b2 b4 b8 : Bool) : appB a b F b1 b2 b4 b8 = appB a b G b1 b2 b4 b8 := by
  unfold appB
  rw [Pl.tab_congr (g := appF a b G b1 b2 b4 b8)]
  intro x y hx hy
  unfold appF
  cases b1 <;> cases b2 <;> cases b4 <;> simp only [if_true, Bool.false_eq_true, if_false] at hx hy ⊢ <;> rw [h _ _ (by omega) (by omega)]
theorem appB_bits (a b : Nat) (F : Nat → Nat → Bool) (b1 b2 b4 b8 c1 c2 c4 c8 : Bool) :
    appB (if b4 then b else a) (if b4 then a else b) (appF a b F b1 b2 b4 b8) c1 c2 c4 c8 = appB a b F (Bool.xor b1 (if b4 then c2 else c1)) (Bool.xor b2 (if b4 then c1 else c2)) (Bool.xor b4 c4) (Bool.xor b8 c8) := by
  have key : ∀ e1 e1' e2 e2', e1 = e1' → e2 = e2' → ((F e1 e2 != b8) != c8) = (F e1' e2' != (Bool.xor b8 c8)) := by
    rintro e1 _ e2 _ rfl rfl
    cases F e1 e2 <;> cases b8 <;> cases c8 <;> rfl
  cases b1 <;> cases b2 <;> cases b4 <;> cases c1 <;> cases c2 <;> cases c4 <;>
  · unfold appB
    simp only [if_true, Bool.false_eq_true, if_false, Bool.xor_true, Bool.xor_false, Bool.not_true, Bool.not_false]
    refine congrArg (fun l => (⟨_, _, l⟩ : Gd)) (Pl.tab_congr fun x y hx hy => ?_)
    unfold appF
    simp only [if_true, Bool.false_eq_true, if_false]
    exact key _ _ _ _ (by omega) (by omega)
theorem comp_bits : ((List.range 16).all fun m => (List.range 16).all fun n =>
    ((compN m n).testBit 0 == Bool.xor (m.testBit 0) (if m.testBit 2 then n.testBit 1 else n.testBit 0)) && ((compN m n).testBit 1 == Bool.xor (m.testBit 1) (if m.testBit 2 then n.testBit 0 else n.testBit 1)) &&
    ((compN m n).testBit 2 == Bool.xor (m.testBit 2) (n.testBit 2)) && ((compN m n).testBit 3 == Bool.xor (m.testBit 3) (n.testBit 3))) = true := by decide +kernel
theorem app_app {a b m n : Nat} {bs : List Bool} (hm : m < 16) (hn : n < 16) : appT (appG a b bs m) n = appG a b bs (compN m n) := by
  have h := comp_bits
  simp only [List.all_eq_true, List.mem_range, Bool.and_eq_true, beq_iff_eq] at h
  obtain ⟨⟨⟨e0, e1⟩, e2⟩, e3⟩ := h m hm n hn
  unfold appT appG
  rw [e0, e1, e2, e3, ← appB_bits]
  refine Eq.trans ?_ (appB_congr (F := cellF (if m.testBit 2 then b else a) (Pl.tab (if m.testBit 2 then b else a) (if m.testBit 2 then a else b) (appF a b (cellF a bs) (m.testBit 0) (m.testBit 1) (m.testBit 2) (m.testBit 3)))) (fun x y hx hy => tab_getD hx hy) _ _ _ _)
  unfold appB
  simp only [Int.toNat_natCast]
theorem app_zero {a b : Nat} {bs : List Bool} (h : bs.length = b * a) : appG a b bs 0 = ⟨a, b, bs⟩ := by
  unfold appG appB
  simp only [Nat.zero_testBit, Bool.false_eq_true, if_false]
  conv => rhs; rw [cell_tab h]
  refine congrArg (fun l => (⟨_, _, l⟩ : Gd)) (Pl.tab_congr fun x y hx hy => ?_)
  unfold appF
  simp only [Bool.false_eq_true, if_false, Bool.bne_false]
theorem comp_assoc_all : ((List.range 16).all fun m => (List.range 16).all fun n => (List.range 16).all fun k => compN (compN m n) k == compN m (compN n k)) = true := by decide +kernel
theorem comp_inv_all : ((List.range 16).all fun m => compN m (invN m) == 0 && compN (invN m) m == 0 && compN 0 m == m && compN m 0 == m) = true := by decide +kernel
theorem comp_assoc {m n k : Nat} (hm : m < 16) (hn : n < 16) (hk : k < 16) : compN (compN m n) k = compN m (compN n k) := by
  have h := comp_assoc_all
  simp only [List.all_eq_true, List.mem_range, beq_iff_eq] at h
  exact h m hm n hn k hk
theorem comp_inv {m : Nat} (hm : m < 16) : compN m (invN m) = 0 ∧ compN (invN m) m = 0 ∧ compN 0 m = m ∧ compN m 0 = m := by
  have h := comp_inv_all
  simp only [List.all_eq_true, List.mem_range, Bool.and_eq_true, beq_iff_eq] at h
  obtain ⟨⟨⟨h1, h2⟩, h3⟩, h4⟩ := h m hm
  exact ⟨h1, h2, h3, h4⟩
theorem app_back {a b m : Nat} {bs : List Bool} (h : bs.length = b * a) (hm : m < 16) : appT (appG a b bs m) (invN m) = ⟨a, b, bs⟩ := by
  rw [app_app hm (invN_lt hm), (comp_inv hm).1, app_zero h]
end Go.Proofs.Ytliibficmdomjaa
