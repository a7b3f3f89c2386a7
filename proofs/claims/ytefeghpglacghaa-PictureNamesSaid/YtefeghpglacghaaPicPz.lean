/- Layer 15 in plain Lean: the error of an image with threads, forced and open cells, weaves. No program in sight. -/
import Derived.Test.YtefeghpglacghaaColPz
namespace Go.Proofs.Ytefeghpglacghaa
open Go.RowKit

/-- The error of an image and thread colours. -/
def thrI (m : Im) (p q : List Int) : Int :=
  if chkI m ≠ 0 then chkI m else if (p.length : Int) ≠ m.w ∨ (q.length : Int) ≠ m.h then 26 else if fineL p = false ∨ fineL q = false then 8 else 0
theorem thrI_one {m : Im} {p q : List Int} (h : chkI m ≠ 0) : thrI m p q = 8 := by unfold thrI; rw [if_pos h, chkI_ne h]
theorem thrI_two {m : Im} {p q : List Int} (h : chkI m = 0) (h2 : (p.length : Int) ≠ m.w ∨ (q.length : Int) ≠ m.h) : thrI m p q = 26 := by
  unfold thrI; rw [if_neg (by omega), if_pos h2]
theorem thrI_three {m : Im} {p q : List Int} (h : chkI m = 0) (h1 : (p.length : Int) = m.w) (h2 : (q.length : Int) = m.h) (h3 : fineL p = false ∨ fineL q = false) : thrI m p q = 8 := by
  unfold thrI; rw [if_neg (by omega), if_neg (by omega), if_pos h3]
theorem thrI_ok {m : Im} {p q : List Int} (h : chkI m = 0) (h1 : (p.length : Int) = m.w) (h2 : (q.length : Int) = m.h) (h3 : fineL p = true) (h4 : fineL q = true) : thrI m p q = 0 := by
  unfold thrI; rw [if_neg (by omega), if_neg (by omega), if_neg (by rw [h3, h4]; simp)]
theorem thrI_zero {m : Im} {p q : List Int} (h : thrI m p q = 0) : chkI m = 0 ∧ (p.length : Int) = m.w ∧ (q.length : Int) = m.h ∧ fineL p = true ∧ fineL q = true := by
  unfold thrI at h
  split at h
  · contradiction
  · split at h
    · omega
    · split at h
      · omega
      · rename_i h1 h2 h3
        refine ⟨by omega, by omega, by omega, ?_, ?_⟩
        · cases hp : fineL p
          · exact absurd (Or.inl hp) h3
          · rfl
        · cases hp : fineL q
          · exact absurd (Or.inr hp) h3
          · rfl
/-- A fine image with threads, opened. -/
theorem thrI_open {m : Im} {p q : List Int} (h : thrI m p q = 0) : ∃ (a b : Nat) (cs : List Int), m = ⟨a, b, cs⟩ ∧ 1 ≤ a ∧ a ≤ 64 ∧ 1 ≤ b ∧ b ≤ 64 ∧ cs.length = b * a ∧ p.length = a ∧ q.length = b ∧ fineL p = true ∧ fineL q = true ∧ fineL cs = true := by
  obtain ⟨h1, h2, h3, h4, h5⟩ := thrI_zero h
  obtain ⟨a, b, hw, hh, k1, k2, k3, k4, hl, hf⟩ := chkI_zero h1
  obtain ⟨W, H, cs⟩ := m
  simp only at *
  subst hw hh
  exact ⟨a, b, cs, rfl, k1, k2, k3, k4, hl, by omega, by omega, h4, h5, hf⟩

/-- A cell by its number shows one of its two threads. -/
def fitC (a : Nat) (cs p q : List Int) (j : Nat) : Bool := decide (p.getD (j % a) 0 = cs.getD j 0) || decide (q.getD (j / a) 0 = cs.getD j 0)
def fitB (a b : Nat) (cs p q : List Int) : Bool := (List.range (b * a)).all fun j => fitC a cs p q j
theorem fitB_true {a b : Nat} {cs p q : List Int} (h : ∀ j, j < b * a → fitC a cs p q j = true) : fitB a b cs p q = true := by
  unfold fitB; rw [List.all_eq_true]; intro j hj; exact h j (by simpa using hj)
theorem fitB_false {a b j : Nat} {cs p q : List Int} (hj : j < b * a) (h : fitC a cs p q j = false) : fitB a b cs p q = false := by
  unfold fitB; rw [List.all_eq_false]; exact ⟨j, by simpa using hj, by simp [h]⟩
theorem fitC_at {a x y : Nat} {cs p q : List Int} (hx : x < a) : fitC a cs p q (y * a + x) = (decide (p.getD x 0 = cs.getD (y * a + x) 0) || decide (q.getD y 0 = cs.getD (y * a + x) 0)) := by
  unfold fitC
  have ha : 0 < a := by omega
  rw [show (y * a + x) % a = x by rw [Nat.add_comm, Nat.add_mul_mod_self_right, Nat.mod_eq_of_lt hx], show (y * a + x) / a = y by rw [Nat.add_comm, Nat.add_mul_div_right _ _ ha, Nat.div_eq_of_lt hx, Nat.zero_add]]
def upF (a : Nat) (cs q : List Int) (x y : Nat) : Bool := !decide (q.getD y 0 = cs.getD (y * a + x) 0)
def openF (a : Nat) (cs p q : List Int) (x y : Nat) : Bool := decide (p.getD x 0 = cs.getD (y * a + x) 0) && decide (q.getD y 0 = cs.getD (y * a + x) 0)
/-- The cells that are forced up, and those that are open. -/
def cellsI (m : Im) (p q : List Int) : (Gd × Gd) × Int :=
  if thrI m p q ≠ 0 then ((Gd.zero, Gd.zero), thrI m p q)
  else if fitB m.w.toNat m.h.toNat m.c p q then ((⟨m.w, m.h, Pl.tab m.w.toNat m.h.toNat (upF m.w.toNat m.c q)⟩, ⟨m.w, m.h, Pl.tab m.w.toNat m.h.toNat (openF m.w.toNat m.c p q)⟩), 0)
  else ((Gd.zero, Gd.zero), 6)
/-- The error of a grid that must have the size of an image. -/
def likeG (g : Gd) (m : Im) : Int := if chkG g ≠ 0 then chkG g else if g.w ≠ m.w ∨ g.h ≠ m.h then 26 else 0
def weaveF (a : Nat) (cs p q : List Int) (bs : List Bool) (x y : Nat) : Bool := upF a cs q x y || openF a cs p q x y && bs.getD (y * a + x) false
def weaveI (m : Im) (p q : List Int) (g : Gd) : Gd × Int :=
  if thrI m p q ≠ 0 then (Gd.zero, thrI m p q) else if likeG g m ≠ 0 then (Gd.zero, likeG g m)
  else if fitB m.w.toNat m.h.toNat m.c p q then (⟨m.w, m.h, Pl.tab m.w.toNat m.h.toNat (weaveF m.w.toNat m.c p q g.bits)⟩, 0) else (Gd.zero, 6)
def showsI (g : Gd) (m : Im) (p q : List Int) : Bool × Int :=
  if thrI m p q ≠ 0 then (false, thrI m p q) else if likeG g m ≠ 0 then (false, likeG g m) else (sameI (frontI g p q).1 m, 0)
end Go.Proofs.Ytefeghpglacghaa
