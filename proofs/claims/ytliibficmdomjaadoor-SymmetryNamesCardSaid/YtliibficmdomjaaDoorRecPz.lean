/- The least rectangle, and the offset of two planes, in plain Lean. No program in sight. -/
import Derived.Test.YtliibficmdomjaaDoorRepPz
namespace Go.Proofs.YtliibficmdomjaaDoor
open Go.RowKit

/-! The least rectangle: the least number whose multiple of B is one of A. -/
theorem rect_least {A B n : Nat} (hA : 1 ≤ A) (hn : 1 ≤ n) (h : n * B % A = 0) (hl : ∀ m, 1 ≤ m → m < n → m * B % A ≠ 0) : n = A / Nat.gcd A B := by
  have hg : 0 < Nat.gcd A B := Nat.gcd_pos_of_pos_left B hA
  obtain ⟨a', ha⟩ := Nat.gcd_dvd_left A B
  obtain ⟨b', hb⟩ := Nat.gcd_dvd_right A B
  have hq : A / Nat.gcd A B = a' := by
    have : A = a' * Nat.gcd A B := by rw [Nat.mul_comm]; exact ha
    exact Nat.div_eq_of_eq_mul_left hg this
  have hqb : B / Nat.gcd A B = b' := by
    have : B = b' * Nat.gcd A B := by rw [Nat.mul_comm]; exact hb
    exact Nat.div_eq_of_eq_mul_left hg this
  have hco : Nat.Coprime a' b' := by
    have := Nat.coprime_div_gcd_div_gcd hg
    rw [hq, hqb] at this
    exact this
  have ha1 : 1 ≤ a' := by
    rcases Nat.eq_zero_or_pos a' with h0 | h0
    · rw [h0, Nat.mul_zero] at ha; omega
    · exact h0
  have key : ∀ m, m * B % A = 0 ↔ a' ∣ m := by
    intro m
    constructor
    · intro hm
      have hd : A ∣ m * B := Nat.dvd_of_mod_eq_zero hm
      have hd2 : Nat.gcd A B * a' ∣ Nat.gcd A B * (m * b') := by
        have e : m * B = Nat.gcd A B * (m * b') := by rw [Nat.mul_left_comm, ← hb]
        rw [← e, ← ha]; exact hd
      exact hco.dvd_of_dvd_mul_right (Nat.dvd_of_mul_dvd_mul_left hg hd2)
    · rintro ⟨k, rfl⟩
      apply Nat.mod_eq_zero_of_dvd
      have e : a' * k * B = A * (k * b') := by
        conv => lhs; rw [hb]
        conv => rhs; rw [ha]
        simp only [Nat.mul_assoc, Nat.mul_left_comm, Nat.mul_comm]
      rw [e]
      exact Nat.dvd_mul_right _ _
  rw [hq]
  have h1 : a' ∣ n := (key n).1 h
  rcases Nat.lt_or_ge a' n with h2 | h2
  · exact absurd ((key a').2 (Nat.dvd_refl _)) (hl a' ha1 h2)
  · exact Nat.le_antisymm h2 (Nat.le_of_dvd hn h1)

/-! Planes as functions of all integers. -/
section
variable {a b : Nat} {bs : List Bool}
theorem pl_red (ha : 1 ≤ a) (hb : 1 ≤ b) (X Y : Int) : ∃ x y : Nat, x < a ∧ y < b ∧ X % (a : Int) = (x : Int) ∧ Y % (b : Int) = (y : Int) := by
  have u1 := Int.emod_nonneg X (show (a : Int) ≠ 0 by omega)
  have u2 := Int.emod_lt_of_pos X (show 0 < (a : Int) by omega)
  have v1 := Int.emod_nonneg Y (show (b : Int) ≠ 0 by omega)
  have v2 := Int.emod_lt_of_pos Y (show 0 < (b : Int) by omega)
  exact ⟨(X % (a : Int)).toNat, (Y % (b : Int)).toNat, by omega, by omega, by omega, by omega⟩
theorem repB_all (ha : 1 ≤ a) (hb : 1 ≤ b) {dx dy : Int} : repB a b bs dx dy = true ↔ ∀ X Y : Int, pl a b bs (X + dx) (Y + dy) = pl a b bs X Y := by
  rw [repB_iff]
  constructor
  · intro h X Y
    obtain ⟨x, y, hx, hy, e1, e2⟩ := pl_red ha hb X Y
    have h1 : pl a b bs (X + dx) (Y + dy) = pl a b bs ((x : Int) + dx) ((y : Int) + dy) := pl_congr (by rw [← e1]; simp) (by rw [← e2]; simp)
    have h2 : pl a b bs X Y = pl a b bs (x : Int) (y : Int) := pl_congr (by rw [← e1]; simp) (by rw [← e2]; simp)
    rw [h1, h2]
    exact h x y hx hy
  · exact fun h x y _ _ => h x y
end

/-- The plane of b, moved by a step, is that of a. -/
def Meets (a b : Nat) (bs : List Bool) (a' b' : Nat) (bs' : List Bool) (dx dy : Int) : Prop := ∀ X Y : Int, pl a b bs X Y = pl a' b' bs' (X + dx) (Y + dy)
section
variable {a b a' b' : Nat} {bs bs' : List Bool}
/-- Planes that meet repeat alike. -/
theorem Meets.rep (ha : 1 ≤ a) (hb : 1 ≤ b) (ha' : 1 ≤ a') (hb' : 1 ≤ b') {dx dy : Int} (h : Meets a b bs a' b' bs' dx dy) (x y : Int) : repB a b bs x y = repB a' b' bs' x y := by
  rw [Bool.eq_iff_iff, repB_all ha hb, repB_all ha' hb']
  constructor
  · intro k X Y
    have h1 := h (X - dx + x) (Y - dy + y)
    have h2 := h (X - dx) (Y - dy)
    have h3 := k (X - dx) (Y - dy)
    rw [h1, h2] at h3
    have e1 : X - dx + x + dx = X + x := by omega
    have e2 : Y - dy + y + dy = Y + y := by omega
    have e3 : X - dx + dx = X := by omega
    have e4 : Y - dy + dy = Y := by omega
    rw [e1, e2, e3, e4] at h3
    exact h3
  · intro k X Y
    rw [h (X + x) (Y + y), h X Y]
    have h3 := k (X + dx) (Y + dy)
    have e1 : X + dx + x = X + x + dx := by omega
    have e2 : Y + dy + y = Y + y + dy := by omega
    rw [e1, e2] at h3
    exact h3
/-- A step of the second plane's lattice more or less makes no difference. -/
theorem Meets.step (ha' : 1 ≤ a') (hb' : 1 ≤ b') {dx dy x y : Int} (h : Meets a b bs a' b' bs' dx dy) (hr : repB a' b' bs' x y = true) : Meets a b bs a' b' bs' (dx - x) (dy - y) := by
  intro X Y
  rw [h X Y]
  have := (repB_all ha' hb').1 hr (X + (dx - x)) (Y + (dy - y))
  have e1 : X + (dx - x) + x = X + dx := by omega
  have e2 : Y + (dy - y) + y = Y + dy := by omega
  rw [e1, e2] at this
  exact this
end

/-! Sums and multiples of repeats. -/
section
variable {a b : Nat} {bs : List Bool}
def Per (a b : Nat) (bs : List Bool) (x y : Int) : Prop := ∀ X Y : Int, pl a b bs (X + x) (Y + y) = pl a b bs X Y
theorem Per.zero : Per a b bs 0 0 := fun X Y => by simp
theorem Per.add {x y x' y' : Int} (h : Per a b bs x y) (h' : Per a b bs x' y') : Per a b bs (x + x') (y + y') := fun X Y => by
  have := h' (X + x) (Y + y)
  rw [h X Y] at this
  rw [← this]
  congr 1 <;> omega
theorem Per.neg {x y : Int} (h : Per a b bs x y) : Per a b bs (-x) (-y) := fun X Y => by
  have := h (X + -x) (Y + -y)
  have e1 : X + -x + x = X := by omega
  have e2 : Y + -y + y = Y := by omega
  rw [e1, e2] at this
  exact this.symm
theorem Per.nat {x y : Int} (h : Per a b bs x y) : ∀ k : Nat, Per a b bs (k * x) (k * y)
  | 0 => by simpa using Per.zero
  | k + 1 => by
    have := (Per.nat h k).add h
    have e1 : (k : Int) * x + x = ((k + 1 : Nat) : Int) * x := by rw [Int.natCast_add, Int.add_mul]; simp
    have e2 : (k : Int) * y + y = ((k + 1 : Nat) : Int) * y := by rw [Int.natCast_add, Int.add_mul]; simp
    rw [e1, e2] at this
    exact this
theorem Per.mul {x y : Int} (h : Per a b bs x y) (k : Int) : Per a b bs (k * x) (k * y) := by
  rcases Int.le_total 0 k with h0 | h0
  · obtain ⟨n, rfl⟩ := Int.eq_ofNat_of_zero_le h0
    exact h.nat n
  · obtain ⟨n, hn⟩ := Int.eq_ofNat_of_zero_le (show 0 ≤ -k by omega)
    have := (h.nat n).neg
    have e : k = -(n : Int) := by omega
    rw [e, Int.neg_mul, Int.neg_mul]
    exact this
theorem IsLat.perA {A B C : Nat} (ha : 1 ≤ a) (hb : 1 ≤ b) (h : IsLat a b bs A B C) : Per a b bs A 0 := (repB_all ha hb).1 h.repA
theorem IsLat.perC {A B C : Nat} (ha : 1 ≤ a) (hb : 1 ≤ b) (h : IsLat a b bs A B C) : Per a b bs B C := (repB_all ha hb).1 h.repC
/-- Each place lies over one of the least cell, by steps of the lattice. -/
theorem lat_place {A B C : Nat} (hA : 1 ≤ A) (hC : 1 ≤ C) (X Y : Int) : ∃ (u v : Nat) (p q : Int), u < A ∧ v < C ∧ X = (u : Int) + p * (A : Int) + q * (B : Int) ∧ Y = (v : Int) + q * (C : Int) := by
  have v1 := Int.emod_nonneg Y (show (C : Int) ≠ 0 by omega)
  have v2 := Int.emod_lt_of_pos Y (show 0 < (C : Int) by omega)
  have v3 := Int.emod_add_mul_ediv Y (C : Int)
  have u1 := Int.emod_nonneg (X - Y / (C : Int) * (B : Int)) (show (A : Int) ≠ 0 by omega)
  have u2 := Int.emod_lt_of_pos (X - Y / (C : Int) * (B : Int)) (show 0 < (A : Int) by omega)
  have u3 := Int.emod_add_mul_ediv (X - Y / (C : Int) * (B : Int)) (A : Int)
  refine ⟨((X - Y / (C : Int) * (B : Int)) % (A : Int)).toNat, (Y % (C : Int)).toNat, (X - Y / (C : Int) * (B : Int)) / (A : Int), Y / (C : Int), by omega, by omega, ?_, ?_⟩
  · rw [Int.mul_comm ((X - Y / (C : Int) * (B : Int)) / (A : Int))]; omega
  · rw [Int.mul_comm (Y / (C : Int))]; omega
theorem Per.at_ {A B C : Nat} (h1 : Per a b bs A 0) (h2 : Per a b bs B C) (u v p q : Int) : pl a b bs (u + p * (A : Int) + q * (B : Int)) (v + q * (C : Int)) = pl a b bs u v := by
  have k1 := h1.mul p
  have k2 := h2.mul q
  have := k2 (u + p * (A : Int)) v
  rw [this]
  have := k1 u v
  simpa using this
end

/-! The offset. -/
section
variable {a b a' b' : Nat} {bs bs' : List Bool}
/-- Planes with one lattice meet if their least cells do. -/
theorem meets_cell (ha : 1 ≤ a) (hb : 1 ≤ b) (ha' : 1 ≤ a') (hb' : 1 ≤ b') {A B C : Nat} (h : IsLat a b bs A B C) (h' : IsLat a' b' bs' A B C) {dx dy : Int}
    (hc : ∀ u v : Nat, u < A → v < C → pl a b bs u v = pl a' b' bs' ((u : Int) + dx) ((v : Int) + dy)) : Meets a b bs a' b' bs' dx dy := by
  intro X Y
  obtain ⟨u, v, p, q, hu, hv, rfl, rfl⟩ := lat_place (B := B) h.a1 h.c1 X Y
  rw [Per.at_ (h.perA ha hb) (h.perC ha hb), hc u v hu hv]
  have := Per.at_ (h'.perA ha' hb') (h'.perC ha' hb') ((u : Int) + dx) ((v : Int) + dy) p q
  rw [← this]
  congr 1 <;> omega
/-- The least step by which planes meet. -/
def IsOff (a b : Nat) (bs : List Bool) (a' b' : Nat) (bs' : List Bool) (x y : Nat) : Prop :=
  Meets a b bs a' b' bs' x y ∧ ∀ x' y' : Nat, (y' < y ∨ y' = y ∧ x' < x) → ¬ Meets a b bs a' b' bs' x' y'
theorem IsOff.unique {x y x' y' : Nat} (h : IsOff a b bs a' b' bs' x y) (h' : IsOff a b bs a' b' bs' x' y') : x = x' ∧ y = y' := by
  rcases Nat.lt_trichotomy y y' with l | l | l
  · exact absurd h.1 (h'.2 x y (.inl l))
  · subst l
    rcases Nat.lt_trichotomy x x' with k | k | k
    · exact absurd h.1 (h'.2 x y (.inr ⟨rfl, k⟩))
    · exact ⟨k, rfl⟩
    · exact absurd h'.1 (h.2 x' y (.inr ⟨rfl, k⟩))
  · exact absurd h'.1 (h.2 x' y' (.inl l))
/-- A step, reduced by whole sides of the second grid. -/
theorem meets_mod {x y : Nat} : Meets a b bs a' b' bs' x y ↔ Meets a b bs a' b' bs' ((x % a' : Nat) : Int) ((y % b' : Nat) : Int) := by
  have e : ∀ X Y : Int, pl a' b' bs' (X + (x : Int)) (Y + (y : Int)) = pl a' b' bs' (X + ((x % a' : Nat) : Int)) (Y + ((y % b' : Nat) : Int)) := fun X Y =>
    pl_congr (by rw [Int.natCast_emod]; simp) (by rw [Int.natCast_emod]; simp)
  exact ⟨fun h X Y => (h X Y).trans (e X Y), fun h X Y => (h X Y).trans (e X Y).symm⟩
/-- No step at all, if none within the second grid. -/
theorem off_none (ha' : 1 ≤ a') (hb' : 1 ≤ b') (h : ∀ x y : Nat, x < a' → y < b' → ¬ Meets a b bs a' b' bs' x y) (x y : Nat) : ¬ Meets a b bs a' b' bs' x y := fun hm =>
  h (x % a') (y % b') (Nat.mod_lt _ ha') (Nat.mod_lt _ hb') (meets_mod.1 hm)
/-- The first step found row by row within the second grid is the least one. -/
theorem off_grid (ha' : 1 ≤ a') {x y : Nat} (hy : y < b') (hm : Meets a b bs a' b' bs' x y)
    (h1 : ∀ x' y' : Nat, x' < a' → y' < y → ¬ Meets a b bs a' b' bs' x' y') (h2 : ∀ x' : Nat, x' < x → ¬ Meets a b bs a' b' bs' x' y) : IsOff a b bs a' b' bs' x y := by
  refine ⟨hm, fun x' y' hl hm' => ?_⟩
  rcases hl with hl | ⟨rfl, hl⟩
  · have := meets_mod.1 hm'
    rw [Nat.mod_eq_of_lt (show y' < b' by omega)] at this
    exact h1 (x' % a') y' (Nat.mod_lt _ ha') hl this
  · exact h2 x' hl hm'
/-- The first step found row by row within the least cell is the least one. -/
theorem off_cell (ha' : 1 ≤ a') (hb' : 1 ≤ b') {A B C : Nat} (h' : IsLat a' b' bs' A B C) {x y : Nat} (hm : Meets a b bs a' b' bs' x y)
    (h1 : ∀ x' y' : Nat, x' < A → y' < y → ¬ Meets a b bs a' b' bs' x' y') (h2 : ∀ x' : Nat, x' < x → ¬ Meets a b bs a' b' bs' x' y) : IsOff a b bs a' b' bs' x y := by
  refine ⟨hm, fun x' y' hl hm' => ?_⟩
  rcases hl with hl | ⟨rfl, hl⟩
  · refine h1 (x' % A) y' (Nat.mod_lt _ h'.a1) hl ?_
    intro X Y
    rw [hm' X Y]
    have k := (h'.perA ha' hb').nat (x' / A)
    have := k (X + ((x' % A : Nat) : Int)) (Y + (y' : Int))
    have e := Nat.mod_add_div x' A
    have e2 : (x' : Int) = ((x' % A : Nat) : Int) + ((x' / A : Nat) : Int) * (A : Int) := by rw [← Int.natCast_mul, ← Int.natCast_add, Nat.mul_comm, e]
    rw [Int.mul_zero, Int.add_zero] at this
    rw [← this, e2]
    congr 1
    omega
  · exact h2 x' hl hm'
/-- No step at all, if none within the least cell. -/
theorem off_none_cell (ha' : 1 ≤ a') (hb' : 1 ≤ b') {A B C : Nat} (h' : IsLat a' b' bs' A B C) (h : ∀ x y : Nat, x < A → y < C → ¬ Meets a b bs a' b' bs' x y) (x y : Nat) : ¬ Meets a b bs a' b' bs' x y := fun hm => by
  obtain ⟨u, v, p, q, hu, hv, e1, e2⟩ := lat_place (B := B) h'.a1 h'.c1 (x : Int) (y : Int)
  refine h u v hu hv ?_
  intro X Y
  rw [hm X Y, e1, e2]
  have := Per.at_ (h'.perA ha' hb') (h'.perC ha' hb') (X + (u : Int)) (Y + (v : Int)) p q
  rw [← this]
  congr 1 <;> omega
/-- Planes with different lattices don't meet. -/
theorem off_lat (ha : 1 ≤ a) (hb : 1 ≤ b) (ha' : 1 ≤ a') (hb' : 1 ≤ b') (hn : ¬ (latA a b bs = latA a' b' bs' ∧ latB a b bs = latB a' b' bs' ∧ latC a b bs = latC a' b' bs')) (x y : Nat) : ¬ Meets a b bs a' b' bs' x y := fun hm => by
  have h1 := lat_is (bs := bs) ha hb
  have h2 := lat_is (bs := bs') ha' hb'
  have hr := hm.rep ha hb ha' hb'
  obtain ⟨A', hA'⟩ : ∃ q, q = latA a' b' bs' := ⟨_, rfl⟩
  obtain ⟨B', hB'⟩ : ∃ q, q = latB a' b' bs' := ⟨_, rfl⟩
  obtain ⟨C', hC'⟩ : ∃ q, q = latC a' b' bs' := ⟨_, rfl⟩
  rw [← hA', ← hB', ← hC'] at h2 hn
  have eA : latA a b bs = A' := by
    rcases Nat.lt_trichotomy (latA a b bs) A' with l | l | l
    · have := h2.leastA _ h1.a1 l
      rw [← hr, h1.repA] at this; cases this
    · exact l
    · have := h1.leastA _ h2.a1 l
      rw [hr, h2.repA] at this; cases this
  rw [eA] at h1 hn
  have eC : latC a b bs = C' := by
    rcases Nat.lt_trichotomy (latC a b bs) C' with l | l | l
    · have := h2.leastC _ _ h1.c1 l h1.b1
      rw [← hr, h1.repC] at this; cases this
    · exact l
    · have := h1.leastC _ _ h2.c1 l h2.b1
      rw [hr, h2.repC] at this; cases this
  rw [eC] at h1 hn
  have eB : latB a b bs = B' := by
    rcases Nat.lt_trichotomy (latB a b bs) B' with l | l | l
    · have := h2.leastB _ l
      rw [← hr, h1.repC] at this; cases this
    · exact l
    · have := h1.leastB _ l
      rw [hr, h2.repC] at this; cases this
  exact hn ⟨rfl, eB, rfl⟩
end
end Go.Proofs.YtliibficmdomjaaDoor
