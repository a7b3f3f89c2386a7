/- Operations one after the other, and their compositions. No program in sight. -/
import Derived.Test.YtliibficmdomjaaDoorMg4z
namespace Go.Proofs.YtliibficmdomjaaDoor
open Go.RowKit

theorem appB_congr {a b : Nat} {F G : Nat → Nat → Bool} (h : ∀ x y, x < a → y < b → F x y = G x y) (b1 b2 b4 b8 : Bool) : appB a b F b1 b2 b4 b8 = appB a b G b1 b2 b4 b8 := by
  unfold appB
  rw [Pl.tab_congr (g := appF a b G b1 b2 b4 b8)]
  intro x y hx hy
  unfold appF
  cases b1 <;> cases b2 <;> cases b4 <;> simp only [if_true, Bool.false_eq_true, if_false] at hx hy ⊢ <;> rw [h _ _ (by omega) (by omega)]
theorem appB_bits (a b : Nat) (F : Nat → Nat → Bool) (b1 b2 b4 b8 c1 c2 c4 c8 : Bool) :
    appB (if b4 then b else a) (if b4 then a else b) (appF a b F b1 b2 b4 b8) c1 c2 c4 c8 = appB a b F (Bool.xor b1 (if b4 then c2 else c1)) (Bool.xor b2 (if b4 then c1 else c2)) (Bool.xor b4 c4) (Bool.xor b8 c8) := by
  have key : ∀ e1 e1' e2 e2', e1 = e1' → e2 = e2' → ((F e1 e2 != b8) != c8) = (F e1' e2' != (Bool.xor b8 c8)) := by
    rintro e1 _ e2 _ rfl rfl
    cases F e1 e2 <;> cases b8 <;> cases c8 <;> rfl
  cases b1 <;> cases b2 <;> cases b4 <;> cases c1 <;> cases c2 <;> cases c4 <;>
  · unfold appB
    simp only [if_true, Bool.false_eq_true, if_false, Bool.xor_true, Bool.xor_false, Bool.not_true, Bool.not_false]
    refine congrArg (fun l => (⟨_, _, l⟩ : Gd)) (Pl.tab_congr fun x y hx hy => ?_)
    unfold appF
    simp only [if_true, Bool.false_eq_true, if_false]
    exact key _ _ _ _ (by omega) (by omega)
theorem comp_bits : ((List.range 16).all fun m => (List.range 16).all fun n =>
    ((compN m n).testBit 0 == Bool.xor (m.testBit 0) (if m.testBit 2 then n.testBit 1 else n.testBit 0)) && ((compN m n).testBit 1 == Bool.xor (m.testBit 1) (if m.testBit 2 then n.testBit 0 else n.testBit 1)) &&
    ((compN m n).testBit 2 == Bool.xor (m.testBit 2) (n.testBit 2)) && ((compN m n).testBit 3 == Bool.xor (m.testBit 3) (n.testBit 3))) = true := by decide +kernel
theorem app_app {a b m n : Nat} {bs : List Bool} (hm : m < 16) (hn : n < 16) : appT (appG a b bs m) n = appG a b bs (compN m n) := by
  have h := comp_bits
  simp only [List.all_eq_true, List.mem_range, Bool.and_eq_true, beq_iff_eq] at h
  obtain ⟨⟨⟨e0, e1⟩, e2⟩, e3⟩ := h m hm n hn
  unfold appT appG
  rw [e0, e1, e2, e3, ← appB_bits]
  refine Eq.trans ?_ (appB_congr (F := cellF (if m.testBit 2 then b else a) (Pl.tab (if m.testBit 2 then b else a) (if m.testBit 2 then a else b) (appF a b (cellF a bs) (m.testBit 0) (m.testBit 1) (m.testBit 2) (m.testBit 3)))) (fun x y hx hy => tab_getD hx hy) _ _ _ _)
  unfold appB
  simp only [Int.toNat_natCast]
theorem app_zero {a b : Nat} {bs : List Bool} (h : bs.length = b * a) : appG a b bs 0 = ⟨a, b, bs⟩ := by
  unfold appG appB
  simp only [Nat.zero_testBit, Bool.false_eq_true, if_false]
  conv => rhs; rw [cell_tab h]
  refine congrArg (fun l => (⟨_, _, l⟩ : Gd)) (Pl.tab_congr fun x y hx hy => ?_)
  unfold appF
  simp only [Bool.false_eq_true, if_false, Bool.bne_false]
theorem comp_assoc_all : ((List.range 16).all fun m => (List.range 16).all fun n => (List.range 16).all fun k => compN (compN m n) k == compN m (compN n k)) = true := by decide +kernel
theorem comp_inv_all : ((List.range 16).all fun m => compN m (invN m) == 0 && compN (invN m) m == 0 && compN 0 m == m && compN m 0 == m) = true := by decide +kernel
theorem comp_assoc {m n k : Nat} (hm : m < 16) (hn : n < 16) (hk : k < 16) : compN (compN m n) k = compN m (compN n k) := by
  have h := comp_assoc_all
  simp only [List.all_eq_true, List.mem_range, beq_iff_eq] at h
  exact h m hm n hn k hk
theorem comp_inv {m : Nat} (hm : m < 16) : compN m (invN m) = 0 ∧ compN (invN m) m = 0 ∧ compN 0 m = m ∧ compN m 0 = m := by
  have h := comp_inv_all
  simp only [List.all_eq_true, List.mem_range, Bool.and_eq_true, beq_iff_eq] at h
  obtain ⟨⟨⟨h1, h2⟩, h3⟩, h4⟩ := h m hm
  exact ⟨h1, h2, h3, h4⟩
theorem app_back {a b m : Nat} {bs : List Bool} (h : bs.length = b * a) (hm : m < 16) : appT (appG a b bs m) (invN m) = ⟨a, b, bs⟩ := by
  rw [app_app hm (invN_lt hm), (comp_inv hm).1, app_zero h]
end Go.Proofs.YtliibficmdomjaaDoor
