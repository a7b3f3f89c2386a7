/- Which operations make one cloth of another: they come with compositions and inverses. No program in sight. -/
import Derived.Test.YtliibficmdomjaaDoorMg11z
import Derived.Test.YtliibficmdomjaaDoorMg4z
import Derived.Test.YtliibficmdomjaaDoorRecPz
namespace Go.Proofs.YtliibficmdomjaaDoor
open Go.RowKit

/-- A plane turned as an operation turns it. -/
def appPl (a b : Nat) (p : Int → Int → Bool) (b1 b2 b4 b8 : Bool) (X Y : Int) : Bool :=
  p (if b1 then (a : Int) - 1 - (if b4 then Y else X) else (if b4 then Y else X)) (if b2 then (b : Int) - 1 - (if b4 then X else Y) else (if b4 then X else Y)) != b8
theorem emod_red {a x : Nat} {X : Int} (hx : x < a) (h : X % (a : Int) = (x : Int)) : ((a : Int) - 1 - X) % (a : Int) = ((a - 1 - x : Nat) : Int) := by
  have e := Int.mul_ediv_add_emod X (a : Int)
  rw [h] at e
  have e2 : (a : Int) - 1 - X = ((a - 1 - x : Nat) : Int) + (a : Int) * (-(X / (a : Int))) := by
    rw [Int.mul_neg]
    generalize (a : Int) * (X / (a : Int)) = z at *
    omega
  rw [e2, Int.add_mul_emod_self_left, Int.emod_eq_of_lt (by omega) (by omega)]
section
variable {a b : Nat} {bs : List Bool}
theorem pl_of {x y : Nat} {X Y : Int} (hx : x < a) (hy : y < b) (h1 : X % (a : Int) = (x : Int)) (h2 : Y % (b : Int) = (y : Int)) : pl a b bs X Y = bs.getD (y * a + x) false := by
  rw [← pl_nat hx hy]
  exact pl_congr (by rw [h1, Int.emod_eq_of_lt (by omega) (by omega)]) (by rw [h2, Int.emod_eq_of_lt (by omega) (by omega)])
theorem pl_app (ha : 1 ≤ a) (hb : 1 ≤ b) (b1 b2 b4 b8 : Bool) (X Y : Int) :
    pl (if b4 then b else a) (if b4 then a else b) (Pl.tab (if b4 then b else a) (if b4 then a else b) (appF a b (cellF a bs) b1 b2 b4 b8)) X Y = appPl a b (pl a b bs) b1 b2 b4 b8 X Y := by
  have hP : 1 ≤ (if b4 then b else a) := by cases b4 <;> simpa
  have hQ : 1 ≤ (if b4 then a else b) := by cases b4 <;> simpa
  obtain ⟨x, y, hx, hy, e1, e2⟩ := pl_red hP hQ X Y
  rw [pl_of hx hy e1 e2, tab_getD hx hy]
  unfold appF appPl cellF
  cases b1 <;> cases b2 <;> cases b4 <;> simp only [if_true, Bool.false_eq_true, if_false] at hx hy e1 e2 ⊢ <;> refine congrArg (· != b8) (pl_of ?_ ?_ ?_ ?_).symm <;> first | omega | assumption | exact emod_red (by assumption) (by assumption)
end
/-- An operation makes one cloth of the other. -/
def Alk (a b : Nat) (bs : List Bool) (g' : Gd) (m : Nat) : Prop :=
  ∃ dx dy : Int, Meets (appG a b bs m).w.toNat (appG a b bs m).h.toNat (appG a b bs m).bits g'.w.toNat g'.h.toNat g'.bits dx dy
theorem appG_sides {a b m : Nat} {bs : List Bool} (ha : 1 ≤ a) (hb : 1 ≤ b) : ∃ P Q : Nat, 1 ≤ P ∧ 1 ≤ Q ∧ (appG a b bs m).w.toNat = P ∧ (appG a b bs m).h.toNat = Q := by
  unfold appG appB
  cases m.testBit 2 <;> exact ⟨_, _, by simpa, by simpa, rfl, rfl⟩
theorem pl_appG {a b : Nat} {bs : List Bool} (ha : 1 ≤ a) (hb : 1 ≤ b) (m : Nat) (X Y : Int) :
    pl (appG a b bs m).w.toNat (appG a b bs m).h.toNat (appG a b bs m).bits X Y = appPl a b (pl a b bs) (m.testBit 0) (m.testBit 1) (m.testBit 2) (m.testBit 3) X Y := by
  rw [← pl_app ha hb]
  unfold appG appB
  simp only [Int.toNat_natCast]
/-- Planes that meet, meet with an operation applied to both. -/
theorem Meets.app {a b a' b' : Nat} {bs bs' : List Bool} (ha : 1 ≤ a) (hb : 1 ≤ b) (ha' : 1 ≤ a') (hb' : 1 ≤ b') {dx dy : Int} (h : Meets a b bs a' b' bs' dx dy) (n : Nat) :
    ∃ ex ey : Int, Meets (appG a b bs n).w.toNat (appG a b bs n).h.toNat (appG a b bs n).bits (appG a' b' bs' n).w.toNat (appG a' b' bs' n).h.toNat (appG a' b' bs' n).bits ex ey := by
  refine ⟨if n.testBit 2 then (if n.testBit 1 then (b' : Int) - b - dy else dy) else (if n.testBit 0 then (a' : Int) - a - dx else dx), if n.testBit 2 then (if n.testBit 0 then (a' : Int) - a - dx else dx) else (if n.testBit 1 then (b' : Int) - b - dy else dy), fun X Y => ?_⟩
  rw [pl_appG ha hb, pl_appG ha' hb']
  unfold appPl
  rw [h]
  cases n.testBit 0 <;> cases n.testBit 1 <;> cases n.testBit 2 <;> simp only [if_true, Bool.false_eq_true, if_false] <;> refine congrArg (· != n.testBit 3) ?_ <;> congr 1 <;> omega
theorem Meets.trans {a b a' b' a'' b'' : Nat} {bs bs' bs'' : List Bool} {dx dy ex ey : Int} (h : Meets a b bs a' b' bs' dx dy) (k : Meets a' b' bs' a'' b'' bs'' ex ey) : Meets a b bs a'' b'' bs'' (dx + ex) (dy + ey) := by
  intro X Y
  rw [h X Y, k, Int.add_assoc, Int.add_assoc]
theorem Meets.turn {a b a' b' : Nat} {bs bs' : List Bool} {dx dy : Int} (h : Meets a b bs a' b' bs' dx dy) : Meets a' b' bs' a b bs (-dx) (-dy) := by
  intro X Y
  rw [h (X + -dx) (Y + -dy)]
  congr 1 <;> omega
section
variable {a b a' b' : Nat} {bs bs' : List Bool}
theorem alk_zero (hl : bs.length = b * a) : Alk a b bs ⟨a, b, bs⟩ 0 := by
  unfold Alk
  rw [app_zero hl]
  exact ⟨0, 0, fun X Y => by simp⟩
variable (ha : 1 ≤ a) (hb : 1 ≤ b)
include ha hb
theorem Alk.comp {g'' : Gd} {m n : Nat} (hm : m < 16) (hn : n < 16) (ha' : 1 ≤ a') (hb' : 1 ≤ b') (h : Alk a b bs ⟨a', b', bs'⟩ m) (k : Alk a' b' bs' g'' n) : Alk a b bs g'' (compN m n) := by
  obtain ⟨dx, dy, h⟩ := h
  obtain ⟨ex, ey, k⟩ := k
  obtain ⟨P, Q, hP, hQ, eP, eQ⟩ := appG_sides (bs := bs) (m := m) ha hb
  simp only [Int.toNat_natCast] at h
  rw [eP, eQ] at h
  obtain ⟨fx, fy, f⟩ := h.app hP hQ ha' hb' n
  refine ⟨fx + ex, fy + ey, ?_⟩
  rw [← app_app hm hn]
  unfold appT
  rw [eP, eQ]
  exact f.trans k
theorem Alk.inv {m : Nat} (hl : bs.length = b * a) (hm : m < 16) (ha' : 1 ≤ a') (hb' : 1 ≤ b') (h : Alk a b bs ⟨a', b', bs'⟩ m) : Alk a' b' bs' ⟨a, b, bs⟩ (invN m) := by
  obtain ⟨dx, dy, h⟩ := h
  obtain ⟨P, Q, hP, hQ, eP, eQ⟩ := appG_sides (bs := bs) (m := m) ha hb
  simp only [Int.toNat_natCast] at h
  rw [eP, eQ] at h
  obtain ⟨fx, fy, f⟩ := h.app hP hQ ha' hb' (invN m)
  have e := app_back (a := a) (b := b) (bs := bs) hl hm
  unfold appT at e
  rw [eP, eQ] at e
  rw [e] at f
  exact ⟨_, _, f.turn⟩
end

/-! The operations as a list. -/
theorem alk_off {g g' : Gd} {p : Int × Int} {e : Int} (hk : both2 g g' = 0) (hg1 : 1 ≤ g'.w.toNat) (hg2 : 1 ≤ g'.h.toNat) (h : OffR g g' (p, e)) : e = 0 ↔ ∃ dx dy : Int, Meets g.w.toNat g.h.toNat g.bits g'.w.toNat g'.h.toNat g'.bits dx dy := by
  rcases h with ⟨h1, _⟩ | ⟨_, x, y, h2, h3⟩ | ⟨_, h2, h3⟩
  · exact absurd hk h1
  · injection h3 with _ h3
    exact ⟨fun _ => ⟨_, _, h2.1⟩, fun _ => h3⟩
  · injection h3 with _ h3
    constructor
    · intro h; omega
    · rintro ⟨dx, dy, hm⟩
      exfalso
      have x1 := Int.emod_nonneg dx (show (g'.w.toNat : Int) ≠ 0 by omega)
      have y1 := Int.emod_nonneg dy (show (g'.h.toNat : Int) ≠ 0 by omega)
      refine h2 (dx % (g'.w.toNat : Int)).toNat (dy % (g'.h.toNat : Int)).toNat fun X Y => ?_
      rw [Int.toNat_of_nonneg x1, Int.toNat_of_nonneg y1, hm X Y]
      exact pl_congr (by simp) (by simp)
theorem alikeK_filter {a b : Nat} {bs : List Bool} {g' : Gd} {S : Nat → Bool} (hS : ∀ m, m < 16 → ∀ p e, OffR (appG a b bs m) g' (p, e) → (e = 0 ↔ S m = true)) : ∀ {k : Nat} {l : List Int}, k ≤ 16 → AlikeK a b bs g' k l → l = ((List.range k).filter S).map Int.ofNat
  | 0, l, _, h => by rw [show l = [] from h]; rfl
  | k + 1, l, hk, ⟨l0, p, e, h1, h2, h3⟩ => by
    have i := alikeK_filter hS (by omega) h1
    have j := hS k (by omega) p e h2
    rw [List.range_succ, List.filter_append, List.map_append, ← i, h3]
    by_cases he : e = 0
    · rw [if_pos he]
      simp [j.1 he]
    · rw [if_neg he]
      have : S k = false := by
        rcases Bool.eq_false_or_eq_true (S k) with q | q
        · exact absurd (j.2 q) he
        · exact q
      simp [this]
/-- The operations of a pair as a function. -/
theorem alk_fun (P : Nat → Prop) : ∃ S : Nat → Bool, ∀ m, S m = true ↔ P m := by
  classical
  exact ⟨fun m => decide (P m), fun m => by simp⟩

/-! The number of a group's operations divides 16. -/
def consB (s : List Bool) : Bool := (List.range s.length).all fun m => !(s.getD m false) || (List.range s.length).all fun n => !(s.getD n false) || decide (s.length ≤ compN m n) || s.getD (compN m n) false
def srchB : Nat → List Bool → Bool
  | 0, s => decide (16 % (s.count true) = 0)
  | f + 1, s => (!consB (s ++ [true]) || srchB f (s ++ [true])) && (!consB (s ++ [false]) || srchB f (s ++ [false]))
theorem srch_all : srchB 15 [true] = true := by decide +kernel
theorem getD_map {S : Nat → Bool} {k m : Nat} (h : m < k) : ((List.range k).map S).getD m false = S m := by
  simp [List.getD, h]
theorem cons_ok {S : Nat → Bool} (hS : ∀ m n, m < 16 → n < 16 → S m = true → S n = true → S (compN m n) = true) {k : Nat} (hk : k ≤ 16) : consB ((List.range k).map S) = true := by
  unfold consB
  rw [List.length_map, List.length_range]
  simp only [List.all_eq_true, List.mem_range, Bool.or_eq_true, Bool.not_eq_true', decide_eq_true_eq]
  intro m hm
  rcases Bool.eq_false_or_eq_true (S m) with h1 | h1
  · refine .inr fun n hn => ?_
    rcases Bool.eq_false_or_eq_true (S n) with h2 | h2
    · rcases Nat.lt_or_ge (compN m n) k with h3 | h3
      · exact .inr (by rw [getD_map h3]; exact hS m n (by omega) (by omega) h1 h2)
      · exact .inl (.inr h3)
    · exact .inl (.inl (by rw [getD_map hn]; exact h2))
  · exact .inl (by rw [getD_map hm]; exact h1)
theorem srch_ok {S : Nat → Bool} (hS : ∀ m n, m < 16 → n < 16 → S m = true → S n = true → S (compN m n) = true) : ∀ (f k : Nat), k + f = 16 → srchB f ((List.range k).map S) = true → 16 % (((List.range 16).map S).count true) = 0
  | 0, k, hk, h => by
    obtain rfl : k = 16 := by omega
    unfold srchB at h
    exact of_decide_eq_true h
  | f + 1, k, hk, h => by
    unfold srchB at h
    have hc := cons_ok hS (k := k + 1) (by omega)
    rw [List.range_succ, List.map_append] at hc
    simp only [List.map_cons, List.map_nil] at hc
    rw [Bool.and_eq_true] at h
    apply srch_ok hS f (k + 1) (by omega)
    rw [List.range_succ, List.map_append]
    simp only [List.map_cons, List.map_nil]
    rcases Bool.eq_false_or_eq_true (S k) with e | e
    · rw [e] at hc ⊢
      have := h.1
      rw [hc] at this
      simpa using this
    · rw [e] at hc ⊢
      have := h.2
      rw [hc] at this
      simpa using this
theorem group_div {S : Nat → Bool} (h0 : S 0 = true) (hS : ∀ m n, m < 16 → n < 16 → S m = true → S n = true → S (compN m n) = true) : 16 % ((List.range 16).filter S).length = 0 := by
  have h := srch_ok hS 15 1 rfl (by rw [show (List.range 1).map S = [true] by simp [List.range_succ, h0]]; exact srch_all)
  have e : ((List.range 16).map S).count true = ((List.range 16).filter S).length := by
    rw [List.count_eq_countP, List.countP_map, List.countP_eq_length_filter]
    congr 1
    apply List.filter_congr
    intro x _
    simp
  rw [← e]
  exact h
end Go.Proofs.YtliibficmdomjaaDoor
