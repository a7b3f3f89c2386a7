/- The least cell spread is the grid; which rectangles make it by tiling: as the law RepeatSpread asks. No program in sight. -/
import Derived.Test.YtliibficmdomjaaDoorMg16z
import Derived.Test.YtliibficmdomjaaDoorRecPz
import Derived.Test.YtliibficmdomjaaDoorMg2z
namespace Go.Proofs.YtliibficmdomjaaDoor
open Go.RowKit

theorem mulB_dvd {A B m : Nat} (hA : 1 ≤ A) : m * B % A = 0 ↔ (A / Nat.gcd A B) ∣ m := by
  have hg : 0 < Nat.gcd A B := Nat.gcd_pos_of_pos_left B hA
  obtain ⟨a', ha⟩ := Nat.gcd_dvd_left A B
  obtain ⟨b', hb⟩ := Nat.gcd_dvd_right A B
  have hq : A / Nat.gcd A B = a' := Nat.div_eq_of_eq_mul_left hg (by rw [Nat.mul_comm]; exact ha)
  have hqb : B / Nat.gcd A B = b' := Nat.div_eq_of_eq_mul_left hg (by rw [Nat.mul_comm]; exact hb)
  have hco : Nat.Coprime a' b' := by
    have := Nat.coprime_div_gcd_div_gcd hg
    rw [hq, hqb] at this
    exact this
  rw [hq]
  constructor
  · intro hm
    have hd : A ∣ m * B := Nat.dvd_of_mod_eq_zero hm
    have hd2 : Nat.gcd A B * a' ∣ Nat.gcd A B * (m * b') := by
      have e : m * B = Nat.gcd A B * (m * b') := by rw [Nat.mul_left_comm, ← hb]
      rw [← e, ← ha]; exact hd
    exact hco.dvd_of_dvd_mul_right (Nat.dvd_of_mul_dvd_mul_left hg hd2)
  · rintro ⟨k, rfl⟩
    apply Nat.mod_eq_zero_of_dvd
    have e : a' * k * B = A * (k * b') := by
      conv => lhs; rw [hb]
      conv => rhs; rw [ha]
      simp only [Nat.mul_assoc, Nat.mul_left_comm, Nat.mul_comm]
    rw [e]
    exact Nat.dvd_mul_right _ _
section
variable {a b : Nat} {bs : List Bool} {A B C : Nat}
/-- The plane of the least cell. -/
theorem cell_pl (h : IsLat a b bs A B C) (X Y : Int) : pl A C (Pl.tab A C fun x y => bs.getD (y * a + x) false) X Y = pl a b bs (X % (A : Int)) (Y % (C : Int)) := by
  obtain ⟨x, y, hx, hy, e1, e2⟩ := pl_red (a := A) (b := C) h.a1 h.c1 X Y
  have hA := h.a2
  have hC := h.c2
  have e : pl A C (Pl.tab A C fun x y => bs.getD (y * a + x) false) X Y = pl A C (Pl.tab A C fun x y => bs.getD (y * a + x) false) (x : Int) (y : Int) :=
    pl_congr (by rw [e1, Int.emod_eq_of_lt (by omega) (by omega)]) (by rw [e2, Int.emod_eq_of_lt (by omega) (by omega)])
  rw [e, e1, e2, pl_nat hx hy, pl_nat (by omega) (by omega), tabD_get hx hy]
variable (ha : 1 ≤ a) (hb : 1 ≤ b) (h : IsLat a b bs A B C)
include ha hb h
theorem cell_spread (x y : Nat) : pl A C (Pl.tab A C fun x y => bs.getD (y * a + x) false) ((x : Int) - ((y / C * B : Nat) : Int)) (y : Int) = pl a b bs (x : Int) (y : Int) := by
  rw [cell_pl h]
  have hA := h.a1
  have e1 := Int.emod_add_mul_ediv ((x : Int) - ((y / C * B : Nat) : Int)) (A : Int)
  have e2 : (y : Int) = (y : Int) % (C : Int) + ((y / C : Nat) : Int) * (C : Int) := by
    have := Int.emod_add_mul_ediv (y : Int) (C : Int)
    rw [Int.mul_comm] at this
    rw [Int.natCast_ediv]
    omega
  have e3 : (x : Int) = ((x : Int) - ((y / C * B : Nat) : Int)) % (A : Int) + (((x : Int) - ((y / C * B : Nat) : Int)) / (A : Int)) * (A : Int) + ((y / C : Nat) : Int) * (B : Int) := by
    rw [Int.mul_comm (((x : Int) - ((y / C * B : Nat) : Int)) / (A : Int)), e1, ← Int.natCast_mul]
    omega
  have k := Per.at_ (h.perA ha hb) (h.perC ha hb) (((x : Int) - ((y / C * B : Nat) : Int)) % (A : Int)) ((y : Int) % (C : Int)) (((x : Int) - ((y / C * B : Nat) : Int)) / (A : Int)) ((y / C : Nat) : Int)
  rw [← k, ← e3, ← e2]
/-- A step to the side alone. -/
theorem lat_side (k : Nat) : repB a b bs (k : Int) 0 = decide (k % A = 0) := by
  have hC := h.c1
  rw [lat_iff ha hb h, Bool.eq_iff_iff]
  unfold inB
  rw [decide_eq_true_eq, decide_eq_true_eq]
  simp only [Int.zero_emod, Int.zero_ediv, Int.zero_mul, Int.sub_zero, true_and]
  rw [← Int.natCast_emod]
  omega
/-- A step upwards alone. -/
theorem lat_up (k : Nat) : repB a b bs 0 (k : Int) = decide (k % (C * (A / Nat.gcd A B)) = 0) := by
  have hC := h.c1
  have hA := h.a1
  rw [lat_iff ha hb h, Bool.eq_iff_iff]
  unfold inB
  rw [decide_eq_true_eq, decide_eq_true_eq, Int.zero_sub, ← Int.natCast_ediv, ← Int.natCast_mul]
  have e1 : (-((k / C * B : Nat) : Int)) % (A : Int) = 0 ↔ k / C * B % A = 0 := by
    constructor
    · intro e
      have := Int.dvd_neg.1 (Int.dvd_of_emod_eq_zero e)
      exact Nat.mod_eq_zero_of_dvd (Int.natCast_dvd_natCast.1 this)
    · intro e
      exact Int.emod_eq_zero_of_dvd (Int.dvd_neg.2 (Int.natCast_dvd_natCast.2 (Nat.dvd_of_mod_eq_zero e)))
  have e2 : ((k : Int) % (C : Int) = 0) ↔ k % C = 0 := by rw [← Int.natCast_emod]; omega
  rw [e1, e2, mulB_dvd hA]
  constructor
  · rintro ⟨h1, h2⟩
    have e := Nat.mul_div_cancel' (Nat.dvd_of_mod_eq_zero h1)
    exact Nat.mod_eq_zero_of_dvd (by rw [← e]; exact Nat.mul_dvd_mul_left C h2)
  · intro h1
    obtain ⟨z, hz⟩ := Nat.dvd_of_mod_eq_zero h1
    rw [Nat.mul_assoc] at hz
    subst hz
    exact ⟨Nat.mul_mod_right _ _, by rw [Nat.mul_div_cancel_left _ hC]; exact Nat.dvd_mul_right _ _⟩
end
section
variable {a b : Nat} {bs : List Bool} {p q : Nat} (ha : 1 ≤ a) (hb : 1 ≤ b)
include ha hb
theorem tile_iff (hpa : p ∣ a) (hqb : q ∣ b) :
    (∀ x y : Nat, x < a → y < b → bs.getD (y % q * a + x % p) false = bs.getD (y * a + x) false) ↔ repB a b bs (p : Int) 0 = true ∧ repB a b bs 0 (q : Int) = true := by
  have hp : 1 ≤ p := Nat.pos_of_dvd_of_pos hpa ha
  have hq : 1 ≤ q := Nat.pos_of_dvd_of_pos hqb hb
  have hpl := Nat.le_of_dvd ha hpa
  have hql := Nat.le_of_dvd hb hqb
  rw [repB_all ha hb, repB_all ha hb]
  constructor
  · intro H
    have key : ∀ X Y : Int, pl a b bs X Y = pl a b bs (X % (p : Int)) (Y % (q : Int)) := by
      intro X Y
      obtain ⟨x, y, hx, hy, e1, e2⟩ := pl_red ha hb X Y
      have u1 := Nat.mod_lt x hp
      have v1 := Nat.mod_lt y hq
      have e3 : X % (p : Int) = ((x % p : Nat) : Int) := by
        rw [← Int.emod_emod_of_dvd X (Int.natCast_dvd_natCast.2 hpa), e1, Int.natCast_emod]
      have e4 : Y % (q : Int) = ((y % q : Nat) : Int) := by
        rw [← Int.emod_emod_of_dvd Y (Int.natCast_dvd_natCast.2 hqb), e2, Int.natCast_emod]
      have e5 : pl a b bs X Y = pl a b bs (x : Int) (y : Int) := pl_congr (by rw [e1, Int.emod_eq_of_lt (by omega) (by omega)]) (by rw [e2, Int.emod_eq_of_lt (by omega) (by omega)])
      rw [e5, e3, e4, pl_nat hx hy, pl_nat (by omega) (by omega)]
      exact (H x y hx hy).symm
    exact ⟨fun X Y => by rw [key (X + (p : Int)), key X Y]; simp, fun X Y => by rw [key (X + 0), key X Y]; simp⟩
  · rintro ⟨h1, h2⟩ x y hx hy
    have u1 := Nat.mod_lt x hp
    have v1 := Nat.mod_lt y hq
    have k1 := (show Per a b bs (p : Int) 0 from h1).nat (x / p)
    have k2 := (show Per a b bs 0 (q : Int) from h2).nat (y / q)
    have e1 := Nat.mod_add_div x p
    have e2 := Nat.mod_add_div y q
    rw [← pl_nat hx hy, ← pl_nat (show x % p < a by omega) (show y % q < b by omega)]
    have m1 := k1 ((x % p : Nat) : Int) ((y % q : Nat) : Int)
    have m2 := k2 (x : Int) ((y % q : Nat) : Int)
    rw [Int.mul_zero, Int.add_zero] at m1 m2
    have e3 : ((x % p : Nat) : Int) + ((x / p : Nat) : Int) * (p : Int) = (x : Int) := by rw [← Int.natCast_mul, ← Int.natCast_add, Nat.mul_comm, e1]
    have e4 : ((y % q : Nat) : Int) + ((y / q : Nat) : Int) * (q : Int) = (y : Int) := by rw [← Int.natCast_mul, ← Int.natCast_add, Nat.mul_comm, e2]
    rw [e3] at m1
    rw [e4] at m2
    rw [m2, m1]
end
section
variable {a b : Nat} {F : Nat → Nat → Bool} (ha1 : 1 ≤ a) (hb1 : 1 ≤ b) (ha : a ≤ 64) (hb : b ≤ 64)
include ha1 hb1 ha hb
theorem part_t {p q : Nat} (hp1 : 1 ≤ p) (hq1 : 1 ≤ q) (hp : p ≤ a) (hq : q ≤ b) : partG (tabD a b F) 0 0 (p : Int) (q : Int) = (tabD p q F, 0) := by
  unfold partG tabD
  rw [withChk_ok (tabD_chk' ha1 hb1 ha hb), if_neg (by omega)]
  unfold tabG
  simp only [Int.toNat_natCast]
  rw [Pl.tab_congr (g := F)]
  intro x y hx hy
  rw [show ((0 : Int).toNat + y) * a + (0 : Int).toNat + x = y * a + x by simp]
  exact tabD_get (by omega) (by omega)
theorem tile_t {m n : Nat} (hm1 : 1 ≤ m) (hn1 : 1 ≤ n) (hm : m ≤ 64 / a) (hn : n ≤ 64 / b) : tileG (tabD a b F) (m : Int) (n : Int) = (tabD (m * a) (n * b) (fun x y => F (x % a) (y % b)), 0) := by
  have e1 : (64 : Int) / (a : Int) = ((64 / a : Nat) : Int) := by rw [Int.natCast_ediv]; rfl
  have e2 : (64 : Int) / (b : Int) = ((64 / b : Nat) : Int) := by rw [Int.natCast_ediv]; rfl
  unfold tileG tabD
  rw [withChk_ok (tabD_chk' ha1 hb1 ha hb), if_neg (by omega), if_neg (by rw [e1, e2]; omega)]
  unfold tabG
  simp only [Int.toNat_natCast]
  rw [Pl.tab_congr (g := fun x y => F (x % a) (y % b))]
  intro x y hx hy
  exact tabD_get (Nat.mod_lt _ ha1) (Nat.mod_lt _ hb1)
end
section
variable {a b : Nat} {bs : List Bool} {A B C : Nat} (ha1 : 1 ≤ a) (hb1 : 1 ≤ b) (ha : a ≤ 64) (hb : b ≤ 64) (hl : bs.length = b * a) (h : IsLat a b bs A B C)
include ha1 hb1 ha hb hl h
theorem spread_back : spreadG (tabD A C fun x y => bs.getD (y * a + x) false) (B : Int) (a : Int) (b : Int) = (⟨a, b, bs⟩, 0) := by
  have q1 := h.a1
  have q2 := h.a2
  have q3 := h.b1
  have q4 := h.c1
  have q5 := h.c2
  unfold spreadG tabD
  rw [withChk_ok (tabD_chk' h.a1 h.c1 (by omega) (by omega)), if_neg (by omega), if_neg (by omega)]
  unfold tabG
  simp only [Int.toNat_natCast]
  rw [Pl.tab_congr (g := fun x y => bs.getD (y * a + x) false)]
  · exact congrArg (·, 0) (gd_tab hl).symm
  · intro x y hx hy
    rw [cell_spread ha1 hb1 h, pl_nat hx hy]
omit ha hb hl in
theorem rect_div : A ∣ a ∧ C * (A / Nat.gcd A B) ∣ b ∧ 1 ≤ C * (A / Nat.gcd A B) := by
  have q1 := h.a1
  have q4 := h.c1
  have e1 := lat_side ha1 hb1 h a
  have e2 := lat_up ha1 hb1 h b
  rw [repB_w] at e1
  rw [repB_h] at e2
  have d2 := Nat.dvd_of_mod_eq_zero (of_decide_eq_true e2.symm)
  exact ⟨Nat.dvd_of_mod_eq_zero (of_decide_eq_true e1.symm), d2, Nat.pos_of_dvd_of_pos d2 hb1⟩
omit ha hb in
theorem tile_same {p q : Nat} (hpa : p ∣ a) (hqb : q ∣ b) :
    (decide ((a : Int) = ((a / p * p : Nat) : Int)) && decide ((b : Int) = ((b / q * q : Nat) : Int)) && decide (Pl.tab (a / p * p) (b / q * q) (fun x y => bs.getD (y % q * a + x % p) false) = bs)) = (decide (p % A = 0) && decide (q % (C * (A / Nat.gcd A B)) = 0)) := by
  rw [Nat.div_mul_cancel hpa, Nat.div_mul_cancel hqb]
  rw [← lat_side ha1 hb1 h, ← lat_up ha1 hb1 h]
  have e : (Pl.tab a b (fun x y => bs.getD (y % q * a + x % p) false) = bs) ↔ (∀ x y : Nat, x < a → y < b → bs.getD (y % q * a + x % p) false = bs.getD (y * a + x) false) := by
    constructor
    · intro e x y hx hy
      have k := tabD_get (F := fun x y => bs.getD (y % q * a + x % p) false) hx hy
      rw [e] at k
      exact k.symm
    · intro k
      rw [Pl.tab_congr (g := fun x y => bs.getD (y * a + x) false) (fun x y hx hy => k x y hx hy)]
      exact (Pl.tab_self hl).symm
  rw [Bool.eq_iff_iff]
  simp only [Bool.and_eq_true, decide_eq_true_eq, true_and]
  rw [e, tile_iff ha1 hb1 hpa hqb]
end
end Go.Proofs.YtliibficmdomjaaDoor
