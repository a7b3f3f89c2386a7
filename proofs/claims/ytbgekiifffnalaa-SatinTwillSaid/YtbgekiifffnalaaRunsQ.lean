/- The runs of a row tell it. No program in sight. -/
import Derived.Test.YtbgekiifffnalaaRunsP
import Derived.Test.YtbgekiifffnalaaTwP
namespace Go.Proofs.Ytbgekiifffnalaa
open Go.RowKit

theorem rowK_congr {r r' : List Int} : ∀ {k : Nat}, (∀ j, j < k → r.getD j 0 = r'.getD j 0) → rowK r k = rowK r' k
  | 0, _ => rfl
  | k + 1, h => by rw [rowK_succ, rowK_succ, rowK_congr fun j hj => h j (by omega), h k (by omega)]
theorem getD_append_l {r : List Int} {z : Int} {j : Nat} (h : j < r.length) : (r ++ [z]).getD j 0 = r.getD j 0 := by
  rw [List.getD_eq_getElem?_getD, List.getElem?_append_left h, List.getD_eq_getElem?_getD]
theorem getD_append_r {r : List Int} {z : Int} : (r ++ [z]).getD r.length 0 = z := by
  rw [List.getD_eq_getElem?_getD, List.getElem?_append_right (Nat.le_refl _)]
  simp
theorem rowK_snoc (r : List Int) (z : Int) : rowK (r ++ [z]) (r ++ [z]).length = rowK r r.length ++ List.replicate z.toNat (decide (r.length % 2 = 0)) := by
  rw [List.length_append, List.length_singleton, rowK_succ, getD_append_r, rowK_congr (r' := r) fun j hj => getD_append_l hj]
/-- What the runs of the first k cells are. -/
structure RunsOf (l : List Bool) (k : Nat) (r : List Int) : Prop where
  row : rowK r r.length = l.take k
  pos : ∀ j, j < r.length → 1 ≤ r.getD j 0
  ne : 1 ≤ r.length
  last : l.getD (k - 1) false = decide ((r.length - 1) % 2 = 0)
theorem runs_of {l : List Bool} (h0 : l.getD 0 false = true) : ∀ {k : Nat}, 1 ≤ k → k ≤ l.length → RunsOf l k (runsK l k)
  | 0, h, _ => absurd h (by omega)
  | 1, _, hl => by
    have hb : beginsB l 0 = true := by simp [beginsB]
    have e : runsK l 1 = [1] := by rw [runsK_yes hb]; rfl
    rw [e]
    refine ⟨?_, ?_, by simp, ?_⟩
    · have e2 : l.take 1 = [true] := by
        rw [show (1 : Nat) = 0 + 1 from rfl, List.take_add_one, List.getElem?_eq_getElem (by omega)]
        rw [List.getD_eq_getElem?_getD, List.getElem?_eq_getElem (by omega)] at h0
        simpa using h0
      rw [e2]
      rfl
    · intro j hj
      have : j = 0 := by simp at hj; omega
      subst this
      decide
    · simpa using h0
  | k + 2, _, hl => by
    have ih := runs_of h0 (k := k + 1) (by omega) (by omega)
    have hk : k + 1 < l.length := by omega
    have ht : l.take (k + 2) = l.take (k + 1) ++ [l.getD (k + 1) false] := by
      rw [List.take_add_one, List.getElem?_eq_getElem hk, List.getD_eq_getElem?_getD, List.getElem?_eq_getElem hk]
      rfl
    have hlast := ih.last
    rw [show k + 1 - 1 = k by omega] at hlast
    cases hb : beginsB l (k + 1) with
    | true =>
      rw [runsK_yes hb]
      have hne : l.getD (k + 1) false = !(l.getD k false) := by
        simp [beginsB] at hb
        cases h1 : l.getD (k + 1) false <;> cases h2 : l.getD k false <;> simp_all
      have hpar : l.getD (k + 1) false = decide ((runsK l (k + 1)).length % 2 = 0) := by
        rw [hne, hlast, ← decide_not, decide_eq_decide]
        have := ih.ne
        omega
      refine ⟨?_, ?_, by simp, ?_⟩
      · rw [rowK_snoc, ih.row, ht, hpar]
        rfl
      · intro j hj
        rw [List.length_append, List.length_singleton] at hj
        rcases Nat.lt_or_ge j (runsK l (k + 1)).length with h1 | h1
        · rw [getD_append_l h1]; exact ih.pos j h1
        · have : j = (runsK l (k + 1)).length := by omega
          rw [this, getD_append_r]
          decide
      · rw [show k + 2 - 1 = k + 1 by omega, hpar, List.length_append, List.length_singleton]
        congr 1
    | false =>
      rw [runsK_no hb]
      have hne : l.getD (k + 1) false = l.getD k false := by
        simp [beginsB] at hb
        exact hb
      obtain ⟨r, z, hr⟩ : ∃ r z, runsK l (k + 1) = r ++ [z] := by
        have := ih.ne
        rcases List.eq_nil_or_concat (runsK l (k + 1)) with h1 | ⟨r, z, h1⟩
        · rw [h1] at this; simp at this
        · exact ⟨r, z, by simpa using h1⟩
      rw [hr] at ih hlast ⊢
      have hz : 1 ≤ z := by
        have := ih.pos r.length (by simp)
        rwa [getD_append_r] at this
      rw [incL_snoc]
      rw [List.length_append, List.length_singleton, Nat.add_sub_cancel] at hlast
      refine ⟨?_, ?_, by simp, ?_⟩
      · have h1 := ih.row
        rw [rowK_snoc] at h1
        rw [rowK_snoc, ht, ← h1, hne, hlast, List.append_assoc, show (z + 1).toNat = z.toNat + 1 by omega, List.replicate_succ']
      · intro j hj
        rw [List.length_append, List.length_singleton] at hj
        rcases Nat.lt_or_ge j r.length with h1 | h1
        · rw [getD_append_l h1]
          have := ih.pos j (by simp; omega)
          rwa [getD_append_l h1] at this
        · have : j = r.length := by omega
          rw [this, getD_append_r]
          omega
      · rw [show k + 2 - 1 = k + 1 by omega, hne, hlast, List.length_append, List.length_singleton, Nat.add_sub_cancel]
/-- Sums of positive numbers. -/
theorem preS_len {r : List Int} (h : ∀ j, j < r.length → 1 ≤ r.getD j 0) : ∀ {k : Nat}, k ≤ r.length → (k : Int) ≤ preS r k ∧ ((rowK r k).length : Int) = preS r k
  | 0, _ => by rw [preS_zero]; exact ⟨by omega, rfl⟩
  | k + 1, hk => by
    have ih := preS_len h (k := k) (by omega)
    have h1 := h k (by omega)
    rw [preS_succ (by omega), rowK_succ, List.length_append, List.length_replicate]
    omega
theorem preS_mono {r : List Int} (h : ∀ j, j < r.length → 1 ≤ r.getD j 0) {k : Nat} : ∀ {m : Nat}, k + m ≤ r.length → preS r k + m ≤ preS r (k + m)
  | 0, _ => by simp
  | m + 1, hm => by
    have ih := preS_mono h (k := k) (m := m) (by omega)
    have h1 := h (k + m) (by omega)
    rw [← Nat.add_assoc, preS_succ (by omega)]
    omega
theorem runs_valid {l : List Bool} (h64 : l.length ≤ 64) (h2 : 2 ≤ l.length) (h0 : l.getD 0 false = true) (hl : l.getD (l.length - 1) false = false) :
    validB (runsK l l.length) = true ∧ rowK (runsK l l.length) (runsK l l.length).length = l := by
  have R := runs_of h0 (k := l.length) (by omega) (Nat.le_refl _)
  generalize runsK l l.length = r at *
  have hrow : rowK r r.length = l := by rw [R.row, List.take_of_length_le (Nat.le_refl _)]
  have hs := preS_len R.pos (Nat.le_refl r.length)
  rw [hrow] at hs
  have hpar : (r.length - 1) % 2 = 1 := by
    have h1 := R.last
    rw [hl] at h1
    have h2 := of_decide_eq_false h1.symm
    omega
  have := R.ne
  refine ⟨validB_yes ⟨by omega, by omega, by omega⟩ fun k hk => ?_, hrow⟩
  have h1 := R.pos k hk
  have h3 := preS_mono R.pos (k := k + 1) (m := r.length - (k + 1)) (by omega)
  rw [show k + 1 + (r.length - (k + 1)) = r.length by omega, preS_succ hk] at h3
  exact decide_eq_true ⟨h1, by omega⟩
theorem twill_zero {r : List Int} {l : List Bool} (hv : validB r = true) (hrow : rowK r r.length = l) (hl : 1 ≤ l.length) : twillG r 0 = (⟨l.length, 1, l⟩, 0) := by
  rw [twillG_yes hv hrow rfl (s := 0) (by simp)]
  have hH : twH l.length 0 = 1 := by
    unfold twH
    rw [Nat.gcd_zero_right]
    exact Nat.div_self (by omega)
  rw [hH]
  congr 2
  rw [Pl.tab_succ, Pl.tab_zero, List.nil_append]
  have := twF_row (s := 0) (k := 0) (L := l) rfl hl
  rw [← this]
  simp
end Go.Proofs.Ytbgekiifffnalaa
