/- Parts of the proof, in their order. -/
import Derived.Test.YtmajmbfbnchbfaaColPz
import Derived.Test.YtmajmbfbnchbfaaFirstFz
/- Layer 15 in plain Lean: the error of an image with threads, forced and open cells, weaves. No program in sight. -/
namespace Go.Proofs.Ytmajmbfbnchbfaa
open Go.RowKit

/-- The error of an image and thread colours. -/
def thrI (m : Im) (p q : List Int) : Int :=
  if chkI m ≠ 0 then chkI m else if (p.length : Int) ≠ m.w ∨ (q.length : Int) ≠ m.h then 26 else if fineL p = false ∨ fineL q = false then 8 else 0
theorem thrI_one {m : Im} {p q : List Int} (h : chkI m ≠ 0) : thrI m p q = 8 := by unfold thrI; rw [if_pos h, chkI_ne h]
theorem thrI_two {m : Im} {p q : List Int} (h : chkI m = 0) (h2 : (p.length : Int) ≠ m.w ∨ (q.length : Int) ≠ m.h) : thrI m p q = 26 := by
  unfold thrI; rw [if_neg (by omega), if_pos h2]
theorem thrI_three {m : Im} {p q : List Int} (h : chkI m = 0) (h1 : (p.length : Int) = m.w) (h2 : (q.length : Int) = m.h) (h3 : fineL p = false ∨ fineL q = false) : thrI m p q = 8 := by
  unfold thrI; rw [if_neg (by omega), if_neg (by omega), if_pos h3]
theorem thrI_ok {m : Im} {p q : List Int} (h : chkI m = 0) (h1 : (p.length : Int) = m.w) (h2 : (q.length : Int) = m.h) (h3 : fineL p = true) (h4 : fineL q = true) : thrI m p q = 0 := by
  unfold thrI; rw [if_neg (by omega), if_neg (by omega), if_neg (by rw [h3, h4]; simp)]
theorem thrI_zero {m : Im} {p q : List Int} (h : thrI m p q = 0) : chkI m = 0 ∧ (p.length : Int) = m.w ∧ (q.length : Int) = m.h ∧ fineL p = true ∧ fineL q = true := by
  unfold thrI at h
  split at h
  · contradiction
  · split at h
    · omega
    · split at h
      · omega
      · rename_i h1 h2 h3
        refine ⟨by omega, by omega, by omega, ?_, ?_⟩
        · cases hp : fineL p
          · exact absurd (Or.inl hp) h3
          · rfl
        · cases hp : fineL q
          · exact absurd (Or.inr hp) h3
          · rfl
/-- A fine image with threads, opened. -/
theorem thrI_open {m : Im} {p q : List Int} (h : thrI m p q = 0) : ∃ (a b : Nat) (cs : List Int), m = ⟨a, b, cs⟩ ∧ 1 ≤ a ∧ a ≤ 64 ∧ 1 ≤ b ∧ b ≤ 64 ∧ cs.length = b * a ∧ p.length = a ∧ q.length = b ∧ fineL p = true ∧ fineL q = true ∧ fineL cs = true := by
  obtain ⟨h1, h2, h3, h4, h5⟩ := thrI_zero h
  obtain ⟨a, b, hw, hh, k1, k2, k3, k4, hl, hf⟩ := chkI_zero h1
  obtain ⟨W, H, cs⟩ := m
  simp only at *
  subst hw hh
  exact ⟨a, b, cs, rfl, k1, k2, k3, k4, hl, by omega, by omega, h4, h5, hf⟩

/-- A cell by its number shows one of its two threads. -/
def fitC (a : Nat) (cs p q : List Int) (j : Nat) : Bool := decide (p.getD (j % a) 0 = cs.getD j 0) || decide (q.getD (j / a) 0 = cs.getD j 0)
def fitB (a b : Nat) (cs p q : List Int) : Bool := (List.range (b * a)).all fun j => fitC a cs p q j
theorem fitB_true {a b : Nat} {cs p q : List Int} (h : ∀ j, j < b * a → fitC a cs p q j = true) : fitB a b cs p q = true := by
  unfold fitB; rw [List.all_eq_true]; intro j hj; exact h j (by simpa using hj)
theorem fitB_false {a b j : Nat} {cs p q : List Int} (hj : j < b * a) (h : fitC a cs p q j = false) : fitB a b cs p q = false := by
  unfold fitB; rw [List.all_eq_false]; exact ⟨j, by simpa using hj, by simp [h]⟩
theorem fitC_at {a x y : Nat} {cs p q : List Int} (hx : x < a) : fitC a cs p q (y * a + x) = (decide (p.getD x 0 = cs.getD (y * a + x) 0) || decide (q.getD y 0 = cs.getD (y * a + x) 0)) := by
  unfold fitC
  have ha : 0 < a := by omega
  rw [show (y * a + x) % a = x by rw [Nat.add_comm, Nat.add_mul_mod_self_right, Nat.mod_eq_of_lt hx], show (y * a + x) / a = y by rw [Nat.add_comm, Nat.add_mul_div_right _ _ ha, Nat.div_eq_of_lt hx, Nat.zero_add]]
def upF (a : Nat) (cs q : List Int) (x y : Nat) : Bool := !decide (q.getD y 0 = cs.getD (y * a + x) 0)
def openF (a : Nat) (cs p q : List Int) (x y : Nat) : Bool := decide (p.getD x 0 = cs.getD (y * a + x) 0) && decide (q.getD y 0 = cs.getD (y * a + x) 0)
/-- The cells that are forced up, and those that are open. -/
def cellsI (m : Im) (p q : List Int) : (Gd × Gd) × Int :=
  if thrI m p q ≠ 0 then ((Gd.zero, Gd.zero), thrI m p q)
  else if fitB m.w.toNat m.h.toNat m.c p q then ((⟨m.w, m.h, Pl.tab m.w.toNat m.h.toNat (upF m.w.toNat m.c q)⟩, ⟨m.w, m.h, Pl.tab m.w.toNat m.h.toNat (openF m.w.toNat m.c p q)⟩), 0)
  else ((Gd.zero, Gd.zero), 6)
/-- The error of a grid that must have the size of an image. -/
def likeG (g : Gd) (m : Im) : Int := if chkG g ≠ 0 then chkG g else if g.w ≠ m.w ∨ g.h ≠ m.h then 26 else 0
def weaveF (a : Nat) (cs p q : List Int) (bs : List Bool) (x y : Nat) : Bool := upF a cs q x y || openF a cs p q x y && bs.getD (y * a + x) false
def weaveI (m : Im) (p q : List Int) (g : Gd) : Gd × Int :=
  if thrI m p q ≠ 0 then (Gd.zero, thrI m p q) else if likeG g m ≠ 0 then (Gd.zero, likeG g m)
  else if fitB m.w.toNat m.h.toNat m.c p q then (⟨m.w, m.h, Pl.tab m.w.toNat m.h.toNat (weaveF m.w.toNat m.c p q g.bits)⟩, 0) else (Gd.zero, 6)
def showsI (g : Gd) (m : Im) (p q : List Int) : Bool × Int :=
  if thrI m p q ≠ 0 then (false, thrI m p q) else if likeG g m ≠ 0 then (false, likeG g m) else (sameI (frontI g p q).1 m, 0)
end Go.Proofs.Ytmajmbfbnchbfaa
/- Fits as functions and as lists; least fits and lists in order. No program in sight. -/
namespace Go.Proofs.Ytmajmbfbnchbfaa
open Go.RowKit

section
variable {a b : Nat} {cs p q P Q : List Int}
theorem fineL_of {l : List Int} (h : ∀ i, i < l.length → 0 ≤ l.getD i 0 ∧ l.getD i 0 ≤ 15) : fineL l = true := by
  unfold fineL
  rw [List.all_eq_true]
  intro z hz
  obtain ⟨i, hi, rfl⟩ := List.getElem_of_mem hz
  have := h i hi
  rw [List.getD_eq_getElem?_getD, List.getElem?_eq_getElem hi] at this
  exact decide_eq_true this
theorem fitF_fine (hp : p.length = a) (hq : q.length = b) (h : FitF (N2 a b) (M2 a cs) (F2 p q)) : fineL p = true ∧ fineL q = true := by
  refine ⟨fineL_of fun i hi => ?_, fineL_of fun i hi => ?_⟩
  · have := h.val 0 i (by omega) (by rw [n2_0]; omega)
    rw [f2_0 hi] at this
    exact this
  · have := h.val 1 i (by omega) (by rw [n2_1]; omega)
    rw [f2_1 hi] at this
    exact this
theorem fitF_lists (hp : p.length = a) (hq : q.length = b) (hfp : fineL p = true) (hfq : fineL q = true) : FitF (N2 a b) (M2 a cs) (F2 p q) ↔ fitB a b cs p q = true := by
  constructor
  · intro h
    refine fitB_true fun j hj => ?_
    obtain ⟨x, y, hx, hy, rfl⟩ := Pl.cell_split hj
    rw [fitC_at hx]
    have := (f2_fit hp hq).1 h.fit x y hx hy
    rw [Bool.or_eq_true, decide_eq_true_eq, decide_eq_true_eq]
    exact this
  · intro h
    refine ⟨(f2_fit hp hq).2 fun x y hx hy => ?_, fun k i hk hi => ?_⟩
    · unfold fitB at h
      rw [List.all_eq_true] at h
      have := h (y * a + x) (List.mem_range.2 (Pl.cell_lt hx hy))
      rw [fitC_at hx, Bool.or_eq_true, decide_eq_true_eq, decide_eq_true_eq] at this
      exact this
    · rcases (show k = 0 ∨ k = 1 by omega) with rfl | rfl
      · have hi' : i < a := hi
        rw [f2_0 (by omega)]
        exact fineL_get hfp (by omega)
      · have hi' : i < b := hi
        rw [f2_1 (by omega)]
        exact fineL_get hfq (by omega)
theorem app_left {x : Nat} (hp : p.length = a) (hx : x < a) : (p ++ q).getD x 0 = p.getD x 0 := by
  rw [List.getD_eq_getElem?_getD, List.getElem?_append_left (by omega), List.getD_eq_getElem?_getD]
theorem app_right {y : Nat} (hp : p.length = a) : (p ++ q).getD (a + y) 0 = q.getD y 0 := by
  rw [List.getD_eq_getElem?_getD, List.getElem?_append_right (by omega), List.getD_eq_getElem?_getD, hp, Nat.add_sub_cancel_left]
/-- The least fit before another one, as lists. -/
theorem lex_lists (hP : P.length = a) (hQ : Q.length = b) (hp : p.length = a) (hq : q.length = b) (h : LexLe (N2 a b) 2 0 (F2 P Q) (F2 p q)) :
    (∀ i, i < a + b → (P ++ Q).getD i 0 = (p ++ q).getD i 0) ∨ ∃ d, d < a + b ∧ (P ++ Q).getD d 0 < (p ++ q).getD d 0 ∧ ∀ i, i < d → (P ++ Q).getD i 0 = (p ++ q).getD i 0 := by
  rcases h with h | ⟨kd, jd, h1, h2, _, h4, h5⟩
  · refine .inl fun i hi => ?_
    by_cases hia : i < a
    · rw [app_left hP hia, app_left hp hia, ← f2_0 (q := Q) (by omega), ← f2_0 (p := p) (q := q) (by omega)]
      exact (h 0 i (by omega) hia (.inl (by omega))).symm
    · obtain ⟨y, rfl⟩ : ∃ y, i = a + y := ⟨i - a, by omega⟩
      rw [app_right hP, app_right hp, ← f2_1 (p := P) (by omega), ← f2_1 (p := p) (q := q) (by omega)]
      exact (h 1 y (by omega) (by rw [n2_1]; omega) (.inl (by omega))).symm
  · rcases (show kd = 0 ∨ kd = 1 by omega) with rfl | rfl
    · have hj : jd < a := h2
      rw [f2_0 (by omega), f2_0 (by omega)] at h4
      refine .inr ⟨jd, by omega, by rw [app_left hP hj, app_left hp hj]; exact h4, fun i hi => ?_⟩
      rw [app_left hP (by omega), app_left hp (by omega), ← f2_0 (q := Q) (by omega), ← f2_0 (p := p) (q := q) (by omega)]
      exact (h5 0 i (by omega) (by rw [n2_0]; omega) (.inr ⟨rfl, hi⟩)).symm
    · have hj : jd < b := h2
      rw [f2_1 (by omega), f2_1 (by omega)] at h4
      refine .inr ⟨a + jd, by omega, by rw [app_right hP, app_right hp]; exact h4, fun i hi => ?_⟩
      by_cases hia : i < a
      · rw [app_left hP hia, app_left hp hia, ← f2_0 (q := Q) (by omega), ← f2_0 (p := p) (q := q) (by omega)]
        exact (h5 0 i (by omega) hia (.inl (by omega))).symm
      · obtain ⟨y, rfl⟩ : ∃ y, i = a + y := ⟨i - a, by omega⟩
        rw [app_right hP, app_right hp, ← f2_1 (p := P) (by omega), ← f2_1 (p := p) (q := q) (by omega)]
        exact (h5 1 y (by omega) (by rw [n2_1]; omega) (.inr ⟨rfl, by omega⟩)).symm
/-- What a walk over both lists meets: equal numbers, or a lesser one. -/
theorem lex_step {L O : List Int} {n i : Nat} (h : (∀ i, i < n → L.getD i 0 = O.getD i 0) ∨ ∃ d, d < n ∧ L.getD d 0 < O.getD d 0 ∧ ∀ i, i < d → L.getD i 0 = O.getD i 0) (hi : i < n) (hb : ∀ j, j < i → L.getD j 0 = O.getD j 0) (hne : L.getD i 0 ≠ O.getD i 0) : L.getD i 0 < O.getD i 0 := by
  rcases h with h | ⟨d, h1, h2, h3⟩
  · exact absurd (h i hi) hne
  · rcases Nat.lt_trichotomy d i with hd | hd | hd
    · have := hb d hd
      omega
    · subst hd; exact h2
    · exact absurd (h3 i hd) hne
/-- The front of a cloth fits its own colours. -/
theorem front_fits {bs : List Bool} (hp : p.length = a) (hq : q.length = b) (hfp : fineL p = true) (hfq : fineL q = true) : FitF (N2 a b) (M2 a (Pl.tab a b (frontF a bs p q))) (F2 p q) := by
  rw [fitF_lists hp hq hfp hfq]
  refine fitB_true fun j hj => ?_
  obtain ⟨x, y, hx, hy, rfl⟩ := Pl.cell_split hj
  rw [fitC_at hx, tab_getD _ 0 hx hy]
  unfold frontF
  cases bs.getD (y * a + x) false <;> simp
end
end Go.Proofs.Ytmajmbfbnchbfaa
