/- Parts of the proof, in their order. -/
import Derived.Test.YtefeghpglacghaaFirstFz
import Derived.Test.YtefeghpglacghaaPicPz
/- The chapter's examples of layer 15: the least fit of one image, and an image that nothing fits. No program in sight. -/
namespace Go.Proofs.Ytefeghpglacghaa
open Go.RowKit

instance pickDec (cs : List Int) (a b : Nat) (w : List Int) : Decidable (PicksOk cs a b w) := by unfold PicksOk; exact inferInstance
def valB (a b : Nat) (cs : List Int) : Bool := (List.range a).all fun x => (List.range b).all fun y => decide (0 ≤ cs.getD (y * a + x) 0) && decide (cs.getD (y * a + x) 0 ≤ 15) && decide (cs.getD (y * a + x) 0 ∈ cs)
theorem val_of {a b : Nat} {cs : List Int} (h : valB a b cs = true) : Val a b cs := fun x y hx hy => by
  unfold valB at h
  rw [List.all_eq_true] at h
  have h1 := h x (List.mem_range.2 hx)
  rw [List.all_eq_true] at h1
  have h2 := h1 y (List.mem_range.2 hy)
  simp only [Bool.and_eq_true, decide_eq_true_eq] at h2
  exact ⟨⟨h2.1.1, h2.1.2⟩, h2.2⟩
theorem first_ex : FirstR 2 2 [0, 1, 1, 1] [0, 0] [1, 1] 0 := by
  have h := Tried.done (a := 2) (b := 2) (cs := [0, 1, 1, 1]) (l := List.replicate 2 0) (val_of (by decide +kernel)) Tried.start rfl (Dig.zeros 2 pal_pos) (by decide +kernel)
  rw [show colL (pal [0, 1, 1, 1]) (List.replicate 2 0) = [0, 0] by decide +kernel, show picksL [0, 1, 1, 1] 2 [0, 0] 2 = [1, 1] by decide +kernel] at h
  exact h
def sqL : List Int := [0, 1, 2, 1, 2, 0, 2, 0, 1]
theorem no_square : ¬ ∃ F, FitF (N2 3 3) (M2 3 sqL) F := fun ⟨F, hF⟩ => by
  have hV : Val 3 3 sqL := val_of (by decide +kernel)
  obtain ⟨l, h1, h2, h3, _⟩ := pal_fit hV hF
  have hok := picks_of_fit hV h1 h2 h3
  have hn : (pal sqL).length = 4 := by decide +kernel
  rw [hn] at h2
  have key : ∀ x y z : Fin 4, ¬ PicksOk sqL 3 3 (colL (pal sqL) [((x : Nat) : Int), ((y : Nat) : Int), ((z : Nat) : Int)]) := by decide +kernel
  match l, h1 with
  | [x, y, z], _ =>
    have hx := h2 x (by simp)
    have hy := h2 y (by simp)
    have hz := h2 z (by simp)
    refine key ⟨x.toNat, by omega⟩ ⟨y.toNat, by omega⟩ ⟨z.toNat, by omega⟩ ?_
    simp only [show ((x.toNat : Nat) : Int) = x by omega, show ((y.toNat : Nat) : Int) = y by omega, show ((z.toNat : Nat) : Int) = z by omega]
    exact hok
theorem firstI_ex {p q : List Int} {e : Int} (h : FirstI ⟨2, 2, [0, 1, 1, 1]⟩ p q e) : p = [0, 0] ∧ q = [1, 1] ∧ e = 0 := by
  rcases h with ⟨h, _⟩ | ⟨_, h⟩
  · exact absurd (by decide +kernel) h
  · exact h.unique first_ex
theorem firstI_sq {p q : List Int} {e : Int} (h : FirstI ⟨3, 3, sqL⟩ p q e) : p = [] ∧ q = [] ∧ e = 6 := by
  rcases h with ⟨h, _⟩ | ⟨_, h⟩
  · exact absurd (by decide +kernel) h
  · exact h.unique (.inr ⟨rfl, rfl, rfl, no_square⟩)
end Go.Proofs.Ytefeghpglacghaa
/- Fits as functions and as lists; least fits and lists in order. No program in sight. -/
namespace Go.Proofs.Ytefeghpglacghaa
open Go.RowKit

section
variable {a b : Nat} {cs p q P Q : List Int}
theorem fineL_of {l : List Int} (h : ∀ i, i < l.length → 0 ≤ l.getD i 0 ∧ l.getD i 0 ≤ 15) : fineL l = true := by
  unfold fineL
  rw [List.all_eq_true]
  intro z hz
  obtain ⟨i, hi, rfl⟩ := List.getElem_of_mem hz
  have := h i hi
  rw [List.getD_eq_getElem?_getD, List.getElem?_eq_getElem hi] at this
  exact decide_eq_true this
theorem fitF_fine (hp : p.length = a) (hq : q.length = b) (h : FitF (N2 a b) (M2 a cs) (F2 p q)) : fineL p = true ∧ fineL q = true := by
  refine ⟨fineL_of fun i hi => ?_, fineL_of fun i hi => ?_⟩
  · have := h.val 0 i (by omega) (by rw [n2_0]; omega)
    rw [f2_0 hi] at this
    exact this
  · have := h.val 1 i (by omega) (by rw [n2_1]; omega)
    rw [f2_1 hi] at this
    exact this
theorem fitF_lists (hp : p.length = a) (hq : q.length = b) (hfp : fineL p = true) (hfq : fineL q = true) : FitF (N2 a b) (M2 a cs) (F2 p q) ↔ fitB a b cs p q = true := by
  constructor
  · intro h
    refine fitB_true fun j hj => ?_
    obtain ⟨x, y, hx, hy, rfl⟩ := Pl.cell_split hj
    rw [fitC_at hx]
    have := (f2_fit hp hq).1 h.fit x y hx hy
    rw [Bool.or_eq_true, decide_eq_true_eq, decide_eq_true_eq]
    exact this
  · intro h
    refine ⟨(f2_fit hp hq).2 fun x y hx hy => ?_, fun k i hk hi => ?_⟩
    · unfold fitB at h
      rw [List.all_eq_true] at h
      have := h (y * a + x) (List.mem_range.2 (Pl.cell_lt hx hy))
      rw [fitC_at hx, Bool.or_eq_true, decide_eq_true_eq, decide_eq_true_eq] at this
      exact this
    · rcases (show k = 0 ∨ k = 1 by omega) with rfl | rfl
      · have hi' : i < a := hi
        rw [f2_0 (by omega)]
        exact fineL_get hfp (by omega)
      · have hi' : i < b := hi
        rw [f2_1 (by omega)]
        exact fineL_get hfq (by omega)
theorem app_left {x : Nat} (hp : p.length = a) (hx : x < a) : (p ++ q).getD x 0 = p.getD x 0 := by
  rw [List.getD_eq_getElem?_getD, List.getElem?_append_left (by omega), List.getD_eq_getElem?_getD]
theorem app_right {y : Nat} (hp : p.length = a) : (p ++ q).getD (a + y) 0 = q.getD y 0 := by
  rw [List.getD_eq_getElem?_getD, List.getElem?_append_right (by omega), List.getD_eq_getElem?_getD, hp, Nat.add_sub_cancel_left]
/-- The least fit before another one, as lists. -/
theorem lex_lists (hP : P.length = a) (hQ : Q.length = b) (hp : p.length = a) (hq : q.length = b) (h : LexLe (N2 a b) 2 0 (F2 P Q) (F2 p q)) :
    (∀ i, i < a + b → (P ++ Q).getD i 0 = (p ++ q).getD i 0) ∨ ∃ d, d < a + b ∧ (P ++ Q).getD d 0 < (p ++ q).getD d 0 ∧ ∀ i, i < d → (P ++ Q).getD i 0 = (p ++ q).getD i 0 := by
  rcases h with h | ⟨kd, jd, h1, h2, _, h4, h5⟩
  · refine .inl fun i hi => ?_
    by_cases hia : i < a
    · rw [app_left hP hia, app_left hp hia, ← f2_0 (q := Q) (by omega), ← f2_0 (p := p) (q := q) (by omega)]
      exact (h 0 i (by omega) hia (.inl (by omega))).symm
    · obtain ⟨y, rfl⟩ : ∃ y, i = a + y := ⟨i - a, by omega⟩
      rw [app_right hP, app_right hp, ← f2_1 (p := P) (by omega), ← f2_1 (p := p) (q := q) (by omega)]
      exact (h 1 y (by omega) (by rw [n2_1]; omega) (.inl (by omega))).symm
  · rcases (show kd = 0 ∨ kd = 1 by omega) with rfl | rfl
    · have hj : jd < a := h2
      rw [f2_0 (by omega), f2_0 (by omega)] at h4
      refine .inr ⟨jd, by omega, by rw [app_left hP hj, app_left hp hj]; exact h4, fun i hi => ?_⟩
      rw [app_left hP (by omega), app_left hp (by omega), ← f2_0 (q := Q) (by omega), ← f2_0 (p := p) (q := q) (by omega)]
      exact (h5 0 i (by omega) (by rw [n2_0]; omega) (.inr ⟨rfl, hi⟩)).symm
    · have hj : jd < b := h2
      rw [f2_1 (by omega), f2_1 (by omega)] at h4
      refine .inr ⟨a + jd, by omega, by rw [app_right hP, app_right hp]; exact h4, fun i hi => ?_⟩
      by_cases hia : i < a
      · rw [app_left hP hia, app_left hp hia, ← f2_0 (q := Q) (by omega), ← f2_0 (p := p) (q := q) (by omega)]
        exact (h5 0 i (by omega) hia (.inl (by omega))).symm
      · obtain ⟨y, rfl⟩ : ∃ y, i = a + y := ⟨i - a, by omega⟩
        rw [app_right hP, app_right hp, ← f2_1 (p := P) (by omega), ← f2_1 (p := p) (q := q) (by omega)]
        exact (h5 1 y (by omega) (by rw [n2_1]; omega) (.inr ⟨rfl, by omega⟩)).symm
/-- What a walk over both lists meets: equal numbers, or a lesser one. -/
theorem lex_step {L O : List Int} {n i : Nat} (h : (∀ i, i < n → L.getD i 0 = O.getD i 0) ∨ ∃ d, d < n ∧ L.getD d 0 < O.getD d 0 ∧ ∀ i, i < d → L.getD i 0 = O.getD i 0) (hi : i < n) (hb : ∀ j, j < i → L.getD j 0 = O.getD j 0) (hne : L.getD i 0 ≠ O.getD i 0) : L.getD i 0 < O.getD i 0 := by
  rcases h with h | ⟨d, h1, h2, h3⟩
  · exact absurd (h i hi) hne
  · rcases Nat.lt_trichotomy d i with hd | hd | hd
    · have := hb d hd
      omega
    · subst hd; exact h2
    · exact absurd (h3 i hd) hne
/-- The front of a cloth fits its own colours. -/
theorem front_fits {bs : List Bool} (hp : p.length = a) (hq : q.length = b) (hfp : fineL p = true) (hfq : fineL q = true) : FitF (N2 a b) (M2 a (Pl.tab a b (frontF a bs p q))) (F2 p q) := by
  rw [fitF_lists hp hq hfp hfq]
  refine fitB_true fun j hj => ?_
  obtain ⟨x, y, hx, hy, rfl⟩ := Pl.cell_split hj
  rw [fitC_at hx, tab_getD _ 0 hx hy]
  unfold frontF
  cases bs.getD (y * a + x) false <;> simp
end
end Go.Proofs.Ytefeghpglacghaa
