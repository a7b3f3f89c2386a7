/- Twills. No program in sight. -/
import Derived.Test.YtbgekiifffnalaaDoorRowsP
import Derived.Test.YtbgekiifffnalaaDoorGd
namespace Go.Proofs.YtbgekiifffnalaaDoor
open Go.RowKit

def twF (L : List Bool) (s x y : Nat) : Bool := L.getD (((x : Int) - (s : Int) * (y : Int)) % (L.length : Int)).toNat false
def twH (n s : Nat) : Nat := n / Nat.gcd n s
def twillG (runs : List Int) (step : Int) : Gd × Int :=
  if validB runs then
    (⟨(rowK runs runs.length).length, twH (rowK runs runs.length).length (step % (rowK runs runs.length).length).toNat, Pl.tab (rowK runs runs.length).length (twH (rowK runs runs.length).length (step % (rowK runs runs.length).length).toNat) (twF (rowK runs runs.length) (step % (rowK runs runs.length).length).toNat)⟩, 0)
  else (Gd.zero, 8)
theorem twillG_no {runs : List Int} {step : Int} (h : validB runs = false) : twillG runs step = (Gd.zero, 8) := by unfold twillG; rw [h]; rfl
theorem twillG_yes {runs : List Int} {step : Int} {L : List Bool} {n s : Nat} (h : validB runs = true) (hL : rowK runs runs.length = L) (hn : L.length = n) (hs : (step % (n : Int)).toNat = s) :
    twillG runs step = (⟨n, twH n s, Pl.tab n (twH n s) (twF L s)⟩, 0) := by unfold twillG; rw [if_pos h, hL, hn, hs]
theorem tw_dvd {n s j : Nat} (hn : 1 ≤ n) : s * j % n = 0 ↔ twH n s ∣ j := by
  have hg : 0 < Nat.gcd n s := Nat.gcd_pos_of_pos_left s (by omega)
  obtain ⟨a, ha⟩ := Nat.gcd_dvd_left n s
  obtain ⟨b, hb⟩ := Nat.gcd_dvd_right n s
  have hc := Nat.coprime_div_gcd_div_gcd (m := n) (n := s) hg
  have ea : n / Nat.gcd n s = a := Nat.div_eq_of_eq_mul_right hg ha
  have eb : s / Nat.gcd n s = b := Nat.div_eq_of_eq_mul_right hg hb
  rw [ea, eb] at hc
  unfold twH
  rw [ea, ← Nat.dvd_iff_mod_eq_zero]
  constructor
  · intro h
    have h2 : Nat.gcd n s * a ∣ Nat.gcd n s * (b * j) := by
      rw [← ha, ← Nat.mul_assoc, ← hb]; exact h
    have h3 : a ∣ b * j := Nat.dvd_of_mul_dvd_mul_left hg h2
    exact hc.dvd_of_dvd_mul_left h3
  · rintro ⟨c, rfl⟩
    refine ⟨b * c, ?_⟩
    have h1 : s * (a * c) = Nat.gcd n s * b * (a * c) := by rw [← hb]
    have h2 : n * (b * c) = Nat.gcd n s * a * (b * c) := by rw [← ha]
    rw [h1, h2]
    simp only [Nat.mul_comm, Nat.mul_left_comm, Nat.mul_assoc]
theorem twH_pos {n s : Nat} (hn : 1 ≤ n) : 1 ≤ twH n s := Nat.div_pos (Nat.le_of_dvd (by omega) (Nat.gcd_dvd_left n s)) (Nat.gcd_pos_of_pos_left s (by omega))
theorem twH_le (n s : Nat) : twH n s ≤ n := Nat.div_le_self _ _
theorem tw_end {n s k : Nat} (hn : 1 ≤ n) (hk : k < twH n s) (h : s * (k + 1) % n = 0) : k + 1 = twH n s := by
  have := Nat.le_of_dvd (by omega) ((tw_dvd hn).1 h)
  omega
theorem tw_more {n s k : Nat} (hn : 1 ≤ n) (hk : k < twH n s) (h : ¬ s * (k + 1) % n = 0) : k + 1 < twH n s := by
  rcases Nat.lt_or_ge (k + 1) (twH n s) with h1 | h1
  · exact h1
  · exfalso
    apply h
    rw [tw_dvd hn, show k + 1 = twH n s by omega]
    exact Nat.dvd_refl _
theorem twF_row {L : List Bool} {n s k : Nat} (hL : L.length = n) (hn : 1 ≤ n) : L.drop (n - s * k % n) ++ L.take (n - s * k % n) = (List.range n).map fun x => twF L s x k := by
  have ha : s * k % n < n := Nat.mod_lt _ (by omega)
  have hm : (s : Int) * (k : Int) = (n : Int) * ((s * k / n : Nat) : Int) + ((s * k % n : Nat) : Int) := by
    have := Nat.div_add_mod (s * k) n
    rw [← Int.natCast_mul, ← Int.natCast_mul, ← Int.natCast_add, this]
  refine List.ext_getElem? fun x => ?_
  by_cases hx : x < n
  · rw [List.getElem?_map, List.getElem?_range hx, Option.map_some]
    unfold twF
    rw [hL, hm]
    generalize s * k / n = q at *
    generalize s * k % n = t at *
    by_cases hxt : x < t
    · have e : ((x : Int) - ((n : Int) * (q : Int) + (t : Int))) % (n : Int) = ((n - t + x : Nat) : Int) := by
        rw [show (x : Int) - ((n : Int) * (q : Int) + (t : Int)) = ((n - t + x : Nat) : Int) + (n : Int) * (-((q : Int) + 1)) by rw [Int.mul_neg, Int.mul_add]; omega, Int.add_mul_emod_self_left]
        exact Int.emod_eq_of_lt (by omega) (by omega)
      rw [e, List.getElem?_append_left (by simp; omega), List.getElem?_drop]
      rw [Int.toNat_natCast]
      simp [List.getD, show n - t + x < L.length by omega]
    · have e : ((x : Int) - ((n : Int) * (q : Int) + (t : Int))) % (n : Int) = ((x - t : Nat) : Int) := by
        rw [show (x : Int) - ((n : Int) * (q : Int) + (t : Int)) = ((x - t : Nat) : Int) + (n : Int) * (-(q : Int)) by rw [Int.mul_neg]; omega, Int.add_mul_emod_self_left]
        exact Int.emod_eq_of_lt (by omega) (by omega)
      rw [e, List.getElem?_append_right (by simp; omega), List.length_drop, List.getElem?_take, if_pos (by omega), show x - (L.length - (n - t)) = x - t by omega]
      simp [List.getD, show x - t < L.length by omega]
  · rw [List.getElem?_eq_none (by simp; omega), List.getElem?_eq_none (by simp; omega)]
end Go.Proofs.YtbgekiifffnalaaDoor
