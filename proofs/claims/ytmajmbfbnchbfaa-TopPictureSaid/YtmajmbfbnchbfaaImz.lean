/- Plain data of an image and of thread colours, and what layer 14 makes of them. No program in sight. -/
import Derived.Test.YtmajmbfbnchbfaaMg1z
import Derived.Test.YtmajmbfbnchbfaaMg2z
import Derived.Test.YtmajmbfbnchbfaaMg5z
namespace Go.Proofs.Ytmajmbfbnchbfaa
open Go.RowKit

structure Im where
  w : Int
  h : Int
  c : List Int
def Im.zero : Im := ⟨0, 0, []⟩

/-- All numbers are colours. -/
def fineL (l : List Int) : Bool := l.all fun z => decide (0 ≤ z ∧ z ≤ 15)
theorem fineL_nil : fineL [] = true := rfl
theorem fineL_take {l : List Int} {k : Nat} {z : Int} (h : fineL (l.take k) = true) (hz : l[k]? = some z) (h0 : 0 ≤ z) (h1 : z ≤ 15) : fineL (l.take (k + 1)) = true := by
  have e : l.take (k + 1) = l.take k ++ [z] := by rw [List.take_add_one, hz]; rfl
  rw [e]
  unfold fineL at h ⊢
  rw [List.all_append, h]
  simp [h0, h1]
theorem fineL_not {l : List Int} {k : Nat} {z : Int} (hz : l[k]? = some z) (h : z < 0 ∨ 15 < z) : fineL l = false := by
  unfold fineL
  rw [List.all_eq_false]
  exact ⟨z, List.mem_of_getElem? hz, by simp; omega⟩
theorem fineL_get {l : List Int} (h : fineL l = true) {k : Nat} (hk : k < l.length) : 0 ≤ l.getD k 0 ∧ l.getD k 0 ≤ 15 := by
  unfold fineL at h
  rw [List.all_eq_true] at h
  have := h _ (List.getElem_mem hk)
  simp only [decide_eq_true_eq] at this
  simpa [List.getD, hk] using this
theorem fineL_tab {a b : Nat} {F : Nat → Nat → Int} (h : ∀ x y, x < a → y < b → 0 ≤ F x y ∧ F x y ≤ 15) : fineL (Pl.tab a b F) = true := by
  unfold fineL
  rw [List.all_eq_true]
  intro z hz
  obtain ⟨i, hi, rfl⟩ := List.getElem_of_mem hz
  rw [Pl.tab_length] at hi
  obtain ⟨x, y, hx, hy, rfl⟩ := Pl.cell_split hi
  have := Pl.tab_get (f := F) hx hy
  rw [List.getElem?_eq_getElem (by rw [Pl.tab_length]; exact hi)] at this
  injection this with e
  rw [e]
  exact decide_eq_true (h x y hx hy)

/-- The error of an image. -/
def chkI (m : Im) : Int := if m.w < 1 ∨ m.h < 1 ∨ 64 < m.w ∨ 64 < m.h ∨ (m.c.length : Int) ≠ m.w * m.h ∨ fineL m.c = false then 8 else 0
theorem chkI_bad {m : Im} (h : m.w < 1 ∨ m.h < 1 ∨ 64 < m.w ∨ 64 < m.h ∨ (m.c.length : Int) ≠ m.w * m.h ∨ fineL m.c = false) : chkI m = 8 := if_pos h
theorem chkI_ok {m : Im} {a b : Nat} (hw : m.w = a) (hh : m.h = b) (ha1 : 1 ≤ a) (ha : a ≤ 64) (hb1 : 1 ≤ b) (hb : b ≤ 64) (hl : m.c.length = b * a) (hf : fineL m.c = true) : chkI m = 0 := by
  unfold chkI
  rw [if_neg]
  rw [hw, hh, hl, hf]
  have : ((b * a : Nat) : Int) = (a : Int) * (b : Int) := by rw [Nat.mul_comm]; exact Int.natCast_mul a b
  rw [this]
  intro hc
  rcases hc with h | h | h | h | h | h
  · omega
  · omega
  · omega
  · omega
  · exact h rfl
  · cases h
theorem chkI_zero {m : Im} (h : chkI m = 0) : ∃ a b : Nat, m.w = (a : Int) ∧ m.h = (b : Int) ∧ 1 ≤ a ∧ a ≤ 64 ∧ 1 ≤ b ∧ b ≤ 64 ∧ m.c.length = b * a ∧ fineL m.c = true := by
  unfold chkI at h
  split at h
  · omega
  · rename_i h1
    have e : (m.c.length : Int) = m.w * m.h := by
      rcases Decidable.em ((m.c.length : Int) = m.w * m.h) with e | e
      · exact e
      · exact absurd (Or.inr (Or.inr (Or.inr (Or.inr (Or.inl e))))) h1
    have f : fineL m.c = true := by
      rcases Bool.eq_false_or_eq_true (fineL m.c) with e | e
      · exact e
      · exact absurd (Or.inr (Or.inr (Or.inr (Or.inr (Or.inr e))))) h1
    refine ⟨m.w.toNat, m.h.toNat, by omega, by omega, by omega, by omega, by omega, by omega, ?_, f⟩
    have e1 : m.w = (m.w.toNat : Int) := by omega
    have e2 : m.h = (m.h.toNat : Int) := by omega
    rw [e1, e2, ← Int.natCast_mul] at e
    rw [Nat.mul_comm]
    exact_mod_cast e
theorem chkI_cases (m : Im) : chkI m = 0 ∨ chkI m = 8 := by unfold chkI; split <;> simp
theorem chkI_ne {m : Im} (h : chkI m ≠ 0) : chkI m = 8 := (chkI_cases m).resolve_left h
theorem chkI_small {m : Im} (h : chkI m = 0) : m.c.length ≤ 4096 := by
  obtain ⟨a, b, _, _, _, h1, _, h2, h3, _⟩ := chkI_zero h
  rw [h3]
  exact Nat.mul_le_mul h2 h1

/-- The error of a grid and thread colours. -/
def thr (g : Gd) (p q : List Int) : Int :=
  if chkG g ≠ 0 then chkG g else if (p.length : Int) ≠ g.w ∨ (q.length : Int) ≠ g.h then 26 else if fineL p = false ∨ fineL q = false then 8 else 0
theorem thr_zero {g : Gd} {p q : List Int} (h : thr g p q = 0) : chkG g = 0 ∧ (p.length : Int) = g.w ∧ (q.length : Int) = g.h ∧ fineL p = true ∧ fineL q = true := by
  unfold thr at h
  split at h
  · contradiction
  · rename_i h0
    split at h
    · omega
    · rename_i h1
      split at h
      · omega
      · rename_i h2
        refine ⟨by omega, by omega, by omega, ?_, ?_⟩
        · rcases Bool.eq_false_or_eq_true (fineL p) with e | e
          · exact e
          · exact absurd (Or.inl e) h2
        · rcases Bool.eq_false_or_eq_true (fineL q) with e | e
          · exact e
          · exact absurd (Or.inr e) h2
theorem thr_one {g : Gd} {p q : List Int} (h : chkG g ≠ 0) : thr g p q = chkG g := by unfold thr; rw [if_pos h]
theorem thr_two {g : Gd} {p q : List Int} (h : chkG g = 0) (h2 : (p.length : Int) ≠ g.w ∨ (q.length : Int) ≠ g.h) : thr g p q = 26 := by
  unfold thr; rw [if_neg (by omega), if_pos h2]
theorem thr_three {g : Gd} {p q : List Int} (h : chkG g = 0) (h1 : (p.length : Int) = g.w) (h2 : (q.length : Int) = g.h) (h3 : fineL p = false ∨ fineL q = false) : thr g p q = 8 := by
  unfold thr; rw [if_neg (by omega), if_neg (by omega), if_pos h3]
theorem thr_ok {g : Gd} {p q : List Int} (h : chkG g = 0) (h1 : (p.length : Int) = g.w) (h2 : (q.length : Int) = g.h) (h3 : fineL p = true) (h4 : fineL q = true) : thr g p q = 0 := by
  unfold thr; rw [if_neg (by omega), if_neg (by omega), if_neg (by rw [h3, h4]; simp)]

def tabI (a b : Nat) (F : Nat → Nat → Int) : Im × Int := (⟨a, b, Pl.tab a b F⟩, 0)
def errI (k : Int) : Im × Int := (Im.zero, k)
def withThr (g : Gd) (p q : List Int) (k : Nat → Nat → Im × Int) : Im × Int := if thr g p q = 0 then k g.w.toNat g.h.toNat else (Im.zero, thr g p q)
theorem withThr_ok {bs : List Bool} {a b : Nat} {p q : List Int} {k : Nat → Nat → Im × Int} (h : thr ⟨a, b, bs⟩ p q = 0) : withThr ⟨a, b, bs⟩ p q k = k a b := by
  unfold withThr; rw [if_pos h]; simp
theorem withThr_bad {g : Gd} {p q : List Int} (h : thr g p q ≠ 0) (k : Nat → Nat → Im × Int) : withThr g p q k = (Im.zero, thr g p q) := if_neg h

def frontF (a : Nat) (bs : List Bool) (p q : List Int) (x y : Nat) : Int := if bs.getD (y * a + x) false then p.getD x 0 else q.getD y 0
def backF (a : Nat) (bs : List Bool) (p q : List Int) (x y : Nat) : Int := if bs.getD (y * a + (a - 1 - x)) false then q.getD y 0 else p.getD (a - 1 - x) 0
def frontI (g : Gd) (p q : List Int) : Im × Int := withThr g p q fun a b => tabI a b (frontF a g.bits p q)
def backI (g : Gd) (p q : List Int) : Im × Int := withThr g p q fun a b => tabI a b (backF a g.bits p q)
def equalG (p q : List Int) : Gd × Int :=
  if p.length < 1 ∨ 64 < p.length ∨ q.length < 1 ∨ 64 < q.length then (Gd.zero, 26)
  else if fineL p = false ∨ fineL q = false then (Gd.zero, 8)
  else tabG p.length q.length fun x y => decide (q.getD y 0 = p.getD x 0)
def withI (m : Im) (k : Nat → Nat → Im × Int) : Im × Int := if chkI m = 0 then k m.w.toNat m.h.toNat else (Im.zero, chkI m)
theorem withI_ok {l : List Int} {a b : Nat} {k : Nat → Nat → Im × Int} (h : chkI ⟨a, b, l⟩ = 0) : withI ⟨a, b, l⟩ k = k a b := by
  unfold withI; rw [if_pos h]; simp
theorem withI_bad {m : Im} (h : chkI m ≠ 0) (k : Nat → Nat → Im × Int) : withI m k = (Im.zero, chkI m) := if_neg h
def turnI (m : Im) : Im × Int := withI m fun a b => tabI b a fun x y => m.c.getD (x * a + y) 0

/-- Two images are equal. -/
def sameI (a b : Im) : Bool := decide (a.w = b.w ∧ a.h = b.h ∧ a.c = b.c)
theorem sameI_iff {a b : Im} : sameI a b = true ↔ a = b := by
  obtain ⟨w, h, l⟩ := a
  obtain ⟨w', h', l'⟩ := b
  simp [sameI]
theorem sameI_self (a : Im) : sameI a a = true := sameI_iff.2 rfl
theorem sameI_not {a b : Im} (h : ¬ (a.w = b.w ∧ a.h = b.h ∧ a.c = b.c)) : sameI a b = false := by simp [sameI]; intro h1 h2 h3; exact h ⟨h1, h2, h3⟩

/-- What a function that hands back an image and an error gives: the image in new memory. -/
def RetI (r : Im × Int) (w : World) (e : Ending) (w' : World) : Prop :=
  ∃ A n c, e = .returned (.tuple #[.agg #[.int .i64 r.1.w, .int .i64 r.1.h, .slice A n c], .int .i64 r.2]) ∧ w'.ownsRow w.heap.size 3 1 (.slice A n c) n (r.1.c.map (Value.int .i64)) ∧ Below w.heap.size w w'
/-- What a function that hands back an image alone gives. -/
def RetJ (m : Im) (w : World) (e : Ending) (w' : World) : Prop :=
  ∃ A n c, e = .returned (.agg #[.int .i64 m.w, .int .i64 m.h, .slice A n c]) ∧ w'.ownsRow w.heap.size 3 1 (.slice A n c) n (m.c.map (Value.int .i64)) ∧ Below w.heap.size w w'
theorem bad_retI {r : Im × Int} {k : Int} (h : r = (Im.zero, k)) {w w' : World} (hb : Below w.heap.size w w') :
    RetI r w (.returned (.tuple #[.agg #[.int .i64 0, .int .i64 0, .slice none 0 0], .int .i64 k])) w' := by
  subst h
  exact ⟨none, 0, 0, rfl, World.ownsRow_nil _ _ _ _, hb⟩
theorem tabI_small {a b : Nat} (ha : a ≤ 64) (hb : b ≤ 64) (F : Nat → Nat → Int) : (tabI a b F).1.c.length ≤ 4096 := by
  unfold tabI
  rw [Pl.tab_length]
  exact Nat.mul_le_mul hb ha
theorem withThr_small {g : Gd} {p q : List Int} {F : Nat → Nat → Nat → Nat → Int} : (withThr g p q fun a b => tabI a b (F a b)).1.c.length ≤ 4096 := by
  unfold withThr
  split
  · rename_i h
    obtain ⟨hg, _⟩ := thr_zero h
    obtain ⟨a, b, h1, h2, _, h3, _, h4, _⟩ := chk_zero hg
    exact tabI_small (by omega) (by omega) _
  · simp [Im.zero]
theorem frontI_small (g : Gd) (p q : List Int) : (frontI g p q).1.c.length ≤ 4096 := withThr_small (F := fun a _ => frontF a g.bits p q)
theorem backI_small (g : Gd) (p q : List Int) : (backI g p q).1.c.length ≤ 4096 := withThr_small (F := fun a _ => backF a g.bits p q)
theorem oneCell_ints (l : List Int) : ∀ u ∈ l.map (Value.int .i64), u.oneCell' = true := by
  intro u hu
  obtain ⟨_, _, rfl⟩ := List.mem_map.1 hu
  rfl

end Go.Proofs.Ytmajmbfbnchbfaa
