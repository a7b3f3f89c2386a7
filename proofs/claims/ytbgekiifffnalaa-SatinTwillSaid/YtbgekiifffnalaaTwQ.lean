/- A twill goes by its step; the runs of its first row are its runs. No program in sight. -/
import Derived.Test.YtbgekiifffnalaaRepQ
import Derived.Test.YtbgekiifffnalaaTwP
import Derived.Test.YtbgekiifffnalaaRunsQ
namespace Go.Proofs.Ytbgekiifffnalaa
open Go.RowKit

/-- The plane of a twill. -/
theorem tw_pl {L : List Bool} {n s : Nat} (hL : L.length = n) (hn : 1 ≤ n) (x y : Int) : pl n (twH n s) (Pl.tab n (twH n s) (twF L s)) x y = L.getD ((x - s * y) % (n : Int)).toNat false := by
  have hH := twH_pos (n := n) (s := s) hn
  have hd : n ∣ s * twH n s := Nat.dvd_of_mod_eq_zero ((tw_dvd hn).2 (Nat.dvd_refl _))
  generalize twH n s = H at *
  have u1 := Int.emod_nonneg x (show (n : Int) ≠ 0 by omega)
  have u2 := Int.emod_lt_of_pos x (show 0 < (n : Int) by omega)
  have v1 := Int.emod_nonneg y (show (H : Int) ≠ 0 by omega)
  have v2 := Int.emod_lt_of_pos y (show 0 < (H : Int) by omega)
  unfold pl
  have h1 := Pl.tab_get (w := n) (h := H) (f := twF L s) (x := (x % (n : Int)).toNat) (y := (y % (H : Int)).toNat) (by omega) (by omega)
  rw [List.getD_eq_getElem?_getD, h1, Option.getD_some]
  unfold twF
  rw [hL, Int.toNat_of_nonneg u1, Int.toNat_of_nonneg v1]
  congr 2
  obtain ⟨t, ht⟩ := hd
  have e1 : x = x % (n : Int) + (n : Int) * (x / n) := (Int.emod_add_mul_ediv x n).symm
  have e2 : y = y % (H : Int) + (H : Int) * (y / H) := (Int.emod_add_mul_ediv y H).symm
  have e3 : (s : Int) * ((H : Int) * (y / H)) = (n : Int) * ((t : Int) * (y / H)) := by
    rw [← Int.mul_assoc, ← Int.natCast_mul, ht, Int.natCast_mul, Int.mul_assoc]
  have e4 : x - (s : Int) * y = (x % (n : Int) - (s : Int) * (y % (H : Int))) + (n : Int) * (x / n - (t : Int) * (y / H)) := by
    have h2 : (s : Int) * y = (s : Int) * (y % (H : Int)) + (n : Int) * ((t : Int) * (y / H)) := by
      rw [← e3, ← Int.mul_add, ← e2]
    have h3 : (n : Int) * (x / n - (t : Int) * (y / H)) = (n : Int) * (x / n) - (n : Int) * ((t : Int) * (y / H)) := Int.mul_sub _ _ _
    rw [h2, h3]
    omega
  rw [e4, Int.add_mul_emod_self_left]
theorem tw_rep {L : List Bool} {n s : Nat} {step : Int} (hL : L.length = n) (hn : 1 ≤ n) (hs : step % (n : Int) = (s : Int)) : repB n (twH n s) (Pl.tab n (twH n s) (twF L s)) step 1 = true := by
  rw [repB_all hn (twH_pos hn)]
  intro x y
  rw [tw_pl hL hn, tw_pl hL hn]
  congr 2
  have e : x + step - (s : Int) * (y + 1) = (x - (s : Int) * y) + (n : Int) * (step / n) := by
    have := Int.emod_add_mul_ediv step n
    rw [hs] at this
    rw [Int.mul_add, Int.mul_one]
    omega
  rw [e, Int.add_mul_emod_self_left]
theorem tw_row0 {L : List Bool} {n s : Nat} (hL : L.length = n) (hn : 1 ≤ n) : (Pl.tab n (twH n s) (twF L s)).take n = L := by
  have hH := twH_pos (n := n) (s := s) hn
  refine List.ext_getElem? fun x => ?_
  rw [List.getElem?_take]
  by_cases hx : x < n
  · rw [if_pos hx]
    have h1 := Pl.tab_get (w := n) (h := twH n s) (f := twF L s) (x := x) (y := 0) hx (by omega)
    rw [Nat.zero_mul, Nat.zero_add] at h1
    rw [h1]
    unfold twF
    rw [hL]
    simp only [Int.natCast_zero, Int.mul_zero, Int.sub_zero]
    rw [Int.emod_eq_of_lt (by omega) (by omega), Int.toNat_natCast, List.getD_eq_getElem?_getD, List.getElem?_eq_getElem (by omega)]
    rfl
  · rw [if_neg hx, List.getElem?_eq_none (by omega)]
theorem rowK_le {r : List Int} : ∀ {m k : Nat}, (rowK r k).length ≤ (rowK r (k + m)).length
  | 0, _ => Nat.le_refl _
  | m + 1, k => by
    have := rowK_le (r := r) (m := m) (k := k)
    rw [← Nat.add_assoc, rowK_succ, List.length_append]
    omega
theorem rowK_pre {r : List Int} : ∀ {m k : Nat} {j : Nat}, j < (rowK r k).length → (rowK r (k + m)).getD j false = (rowK r k).getD j false
  | 0, _, _, _ => rfl
  | m + 1, k, j, hj => by
    have h1 := rowK_le (r := r) (m := m) (k := k)
    rw [← Nat.add_assoc, rowK_succ, List.getD_eq_getElem?_getD, List.getElem?_append_left (by omega), ← List.getD_eq_getElem?_getD]
    exact rowK_pre hj
/-- The cells of the k-th run. -/
theorem row_run {r : List Int} {k j : Nat} (hk : k < r.length) (h1 : (rowK r k).length ≤ j) (h2 : j < (rowK r k).length + (r.getD k 0).toNat) : (rowK r r.length).getD j false = decide (k % 2 = 0) := by
  have hlen : (rowK r (k + 1)).length = (rowK r k).length + (r.getD k 0).toNat := by rw [rowK_succ, List.length_append, List.length_replicate]
  have := rowK_pre (r := r) (m := r.length - (k + 1)) (k := k + 1) (j := j) (by omega)
  rw [show k + 1 + (r.length - (k + 1)) = r.length by omega] at this
  rw [this, rowK_succ, List.getD_eq_getElem?_getD, List.getElem?_append_right h1, List.getElem?_replicate, if_pos (by omega)]
  rfl
theorem row_last {r : List Int} {k : Nat} (hk : k < r.length) (h : 1 ≤ r.getD k 0) : (rowK r r.length).getD ((rowK r (k + 1)).length - 1) false = decide (k % 2 = 0) := by
  have hlen : (rowK r (k + 1)).length = (rowK r k).length + (r.getD k 0).toNat := by rw [rowK_succ, List.length_append, List.length_replicate]
  exact row_run hk (by omega) (by omega)
/-- The runs of a row of valid runs. -/
theorem runs_row {r : List Int} (hp : ∀ j, j < r.length → 1 ≤ r.getD j 0) : ∀ {k : Nat}, k ≤ r.length → runsK (rowK r r.length) (rowK r k).length = r.take k
  | 0, _ => rfl
  | k + 1, hk => by
    have ih := runs_row hp (k := k) (by omega)
    have h1 := hp k (by omega)
    have hz : ((r.getD k 0).toNat : Int) = r.getD k 0 := Int.toNat_of_nonneg (by omega)
    have hlen : (rowK r (k + 1)).length = (rowK r k).length + (r.getD k 0).toNat := by rw [rowK_succ, List.length_append, List.length_replicate]
    have hcell : ∀ j, (rowK r k).length ≤ j → j < (rowK r k).length + (r.getD k 0).toNat → (rowK r r.length).getD j false = decide (k % 2 = 0) := fun j h2 h3 => row_run (by omega) h2 h3
    have hb : beginsB (rowK r r.length) (rowK r k).length = true := by
      unfold beginsB
      rcases k with _ | k
      · simp [rowK_zero]
      · have h4 := hp k (by omega)
        have h5 := row_last (r := r) (k := k) (by omega) h4
        have h6 := hcell (rowK r (k + 1)).length (Nat.le_refl _) (by omega)
        rw [h5, h6]
        have h7 : decide ((k + 1) % 2 = 0) = !decide (k % 2 = 0) := by rw [← decide_not, decide_eq_decide]; omega
        rw [h7]
        cases decide (k % 2 = 0) <;> simp
    have h8 := runsK_run hb (r.getD k 0).toNat (by omega) hcell
    rw [ih, ← hlen, hz] at h8
    rw [h8, List.take_add_one, List.getElem?_eq_getElem (by omega), List.getD_eq_getElem?_getD, List.getElem?_eq_getElem (by omega)]
    rfl
theorem tw_runs {r : List Int} (hv : validB r = true) : runsG (rowK r r.length) = (r, 0) := by
  obtain ⟨⟨h2, h64, heven⟩, hok⟩ := validB_open hv
  have hp : ∀ j, j < r.length → 1 ≤ r.getD j 0 := fun j hj => by
    have := hok j hj
    unfold okAt at this
    rw [decide_eq_true_eq] at this
    omega
  have hb := preS_bound (runs := r) (k := r.length) (Nat.le_refl _) (fun j hj => hok j hj)
  have hl := preS_len hp (Nat.le_refl r.length)
  have hrow := runs_row hp (Nat.le_refl r.length)
  rw [List.take_of_length_le (Nat.le_refl _)] at hrow
  have c0 : (rowK r r.length).getD 0 false = true := by
    have h1 := hp 0 (by omega)
    have := rowK_pre (r := r) (m := r.length - 1) (k := 1) (j := 0) (by rw [rowK_succ, rowK_zero]; simp; simp at h1; omega)
    rw [show 1 + (r.length - 1) = r.length by omega] at this
    rw [this, rowK_succ, rowK_zero, List.nil_append, List.getD_eq_getElem?_getD, List.getElem?_replicate, if_pos (by omega)]
    rfl
  have c1 : (rowK r r.length).getD ((rowK r r.length).length - 1) false = false := by
    obtain ⟨k, hk⟩ : ∃ k, r.length = k + 1 := ⟨r.length - 1, by omega⟩
    have h1 := row_last (r := r) (k := k) (by omega) (hp k (by omega))
    rw [← hk] at h1
    rw [h1]
    exact decide_eq_false (by omega)
  rw [runsG_ok (by omega) (by omega) c0 c1, hrow]
end Go.Proofs.Ytbgekiifffnalaa
