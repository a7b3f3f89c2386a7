/- When a grid shows an image: exactly if it is up where cells are forced up and down where they are forced down. No program in sight. -/
import Derived.Test.YtefeghpglacghaaWeave15z
namespace Go.Proofs.Ytefeghpglacghaa
open Go.RowKit

/-- The first n cells of a grid are as the image forces them. -/
def rightB (a : Nat) (cs p q : List Int) (bs : List Bool) (n : Nat) : Bool := (List.range n).all fun j => openJ a cs p q j || (upJ a cs q j == bs.getD j false)
section
variable {a b : Nat} {cs p q : List Int} {bs : List Bool}
theorem rightB_succ (n : Nat) : rightB a cs p q bs (n + 1) = (rightB a cs p q bs n && (openJ a cs p q n || (upJ a cs q n == bs.getD n false))) := by
  unfold rightB; rw [List.range_succ, List.all_append]; simp
theorem uo_not (j : Nat) : (upJ a cs q j && openJ a cs p q j) = false := by
  unfold upJ openJ
  generalize p.getD (j % a) 0 = u
  generalize q.getD (j / a) 0 = v
  generalize cs.getD j 0 = z
  by_cases h : v = z <;> simp [h]
theorem front_is (j : Nat) (h : fitC a cs p q j = true) : ((if bs.getD j false then p.getD (j % a) 0 else q.getD (j / a) 0) = cs.getD j 0) ↔ (openJ a cs p q j || (upJ a cs q j == bs.getD j false)) = true := by
  unfold fitC at h
  unfold openJ upJ
  rw [Bool.or_eq_true, decide_eq_true_eq, decide_eq_true_eq] at h
  generalize p.getD (j % a) 0 = u at *
  generalize q.getD (j / a) 0 = v at *
  generalize cs.getD j 0 = z at *
  by_cases h1 : u = z
  · by_cases h2 : v = z
    · cases bs.getD j false <;> simp [h1, h2]
    · cases bs.getD j false <;> simp [h1, h2]
  · have h2 : v = z := h.resolve_left h1
    cases bs.getD j false <;> simp [h1, h2]
theorem front_cell {x y : Nat} (hx : x < a) : frontF a bs p q x y = if bs.getD (y * a + x) false then p.getD ((y * a + x) % a) 0 else q.getD ((y * a + x) / a) 0 := by
  unfold frontF
  rw [mod_at hx, div_at hx]
theorem fitB_at {j : Nat} (h : fitB a b cs p q = true) (hj : j < b * a) : fitC a cs p q j = true := by
  unfold fitB at h
  rw [List.all_eq_true] at h
  exact h j (List.mem_range.2 hj)
/-- The front is the image, cell by cell. -/
theorem front_same (hl : cs.length = b * a) : Pl.tab a b (frontF a bs p q) = cs ↔ ∀ j, j < b * a → (if bs.getD j false then p.getD (j % a) 0 else q.getD (j / a) 0) = cs.getD j 0 := by
  constructor
  · intro h j hj
    obtain ⟨x, y, hx, hy, rfl⟩ := Pl.cell_split hj
    rw [← front_cell hx, ← tab_getD (frontF a bs p q) 0 hx hy, h]
  · intro h
    rw [Pl.tab_self (l := cs) (d := 0) hl]
    refine Pl.tab_congr fun x y hx hy => ?_
    rw [front_cell hx, h _ (Pl.cell_lt hx hy)]
theorem shows_mk (h0 : thrI ⟨a, b, cs⟩ p q = 0) (hb : bs.length = b * a) (ha1 : 1 ≤ a) (ha : a ≤ 64) (hb1 : 1 ≤ b) (hbb : b ≤ 64) : showsI ⟨a, b, bs⟩ ⟨a, b, cs⟩ p q = (decide (Pl.tab a b (frontF a bs p q) = cs), 0) := by
  obtain ⟨_, h2, h3, h4, h5⟩ := thrI_zero h0
  simp only at h2 h3
  have hg := chkG_mk ha1 ha hb1 hbb hb
  have hl : likeG ⟨a, b, bs⟩ ⟨a, b, cs⟩ = 0 := likeG_ok hg rfl rfl
  have ht : thr ⟨a, b, bs⟩ p q = 0 := thr_mk ha1 ha hb1 hbb hb (by omega) (by omega) h4 h5
  unfold showsI
  rw [if_neg (by omega), if_neg (by omega), frontI_mk ht]
  unfold sameI
  simp
/-- The stage's theorem: a grid shows the image exactly if it is up and down where it must be. -/
theorem shows_exactly (h0 : thrI ⟨a, b, cs⟩ p q = 0) (hb : bs.length = b * a) (ha1 : 1 ≤ a) (ha : a ≤ 64) (hb1 : 1 ≤ b) (hbb : b ≤ 64) (hl : cs.length = b * a) (hf : fitB a b cs p q = true) : showsI ⟨a, b, bs⟩ ⟨a, b, cs⟩ p q = (rightB a cs p q bs (b * a), 0) := by
  rw [shows_mk h0 hb ha1 ha hb1 hbb]
  refine Prod.ext ?_ rfl
  simp only
  rw [Bool.eq_iff_iff, decide_eq_true_eq, front_same hl]
  unfold rightB
  rw [List.all_eq_true]
  constructor
  · intro h j hj
    have hj' := List.mem_range.1 hj
    exact (front_is j (fitB_at hf hj')).1 (h j hj')
  · intro h j hj
    exact (front_is j (fitB_at hf hj)).2 (h j (List.mem_range.2 hj))
/-- Colours that do not fit: no grid shows the image. -/
theorem shows_unfit (h0 : thrI ⟨a, b, cs⟩ p q = 0) (hb : bs.length = b * a) (ha1 : 1 ≤ a) (ha : a ≤ 64) (hb1 : 1 ≤ b) (hbb : b ≤ 64) (hl : cs.length = b * a) (hf : fitB a b cs p q = false) : showsI ⟨a, b, bs⟩ ⟨a, b, cs⟩ p q = (false, 0) := by
  rw [shows_mk h0 hb ha1 ha hb1 hbb]
  refine Prod.ext ?_ rfl
  simp only
  rw [decide_eq_false_iff_not, front_same hl]
  intro h
  have : fitB a b cs p q = true := fitB_true fun j hj => by
    have h1 := h j hj
    unfold fitC
    rw [Bool.or_eq_true, decide_eq_true_eq, decide_eq_true_eq]
    split at h1
    · exact .inl h1
    · exact .inr h1
  rw [hf] at this
  cases this
theorem woven_get {n j : Nat} (f : Nat → Bool) (h : j < n) : ((List.range n).map f).getD j false = f j := by simp [List.getD, h]
/-- What Weave makes shows the image. -/
theorem shows_woven (h0 : thrI ⟨a, b, cs⟩ p q = 0) (ha1 : 1 ≤ a) (ha : a ≤ 64) (hb1 : 1 ≤ b) (hbb : b ≤ 64) (hl : cs.length = b * a) (hf : fitB a b cs p q = true) : showsI ⟨a, b, (List.range (b * a)).map (weaveJ a cs p q bs)⟩ ⟨a, b, cs⟩ p q = (true, 0) := by
  rw [shows_exactly h0 (by simp) ha1 ha hb1 hbb hl hf]
  refine Prod.ext ?_ rfl
  simp only
  unfold rightB
  rw [List.all_eq_true]
  intro j hj
  rw [woven_get _ (List.mem_range.1 hj)]
  unfold weaveJ
  cases openJ a cs p q j <;> simp
end
end Go.Proofs.Ytefeghpglacghaa
