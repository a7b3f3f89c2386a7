/- The plane of a grid, its repeats, its lattice; steps of a lattice. Plain Lean, no program in sight. -/
import Derived.Test.YtliibficmdomjaaDoorMg2z
namespace Go.Proofs.YtliibficmdomjaaDoor
open Go.RowKit

/-- A cell of the plane of a valid grid. -/
def pl (a b : Nat) (bs : List Bool) (x y : Int) : Bool := bs.getD ((y % (b : Int)).toNat * a + (x % (a : Int)).toNat) false
/-- A step is a repeat. -/
def repB (a b : Nat) (bs : List Bool) (dx dy : Int) : Bool := (List.range b).all fun y => (List.range a).all fun x => pl a b bs (x + dx) (y + dy) == pl a b bs x y

section
variable {a b : Nat} {bs : List Bool}
theorem pl_nat {x y : Nat} (hx : x < a) (hy : y < b) : pl a b bs x y = bs.getD (y * a + x) false := by
  unfold pl
  rw [Int.emod_eq_of_lt (by omega) (by omega), Int.emod_eq_of_lt (by omega) (by omega)]
  simp
theorem pl_congr {x y x' y' : Int} (hx : x % (a : Int) = x' % (a : Int)) (hy : y % (b : Int) = y' % (b : Int)) : pl a b bs x y = pl a b bs x' y' := by
  unfold pl
  rw [hx, hy]
theorem repB_iff {dx dy : Int} : repB a b bs dx dy = true ↔ ∀ x y : Nat, x < a → y < b → pl a b bs (x + dx) (y + dy) = pl a b bs x y := by
  unfold repB
  simp only [List.all_eq_true, List.mem_range, beq_iff_eq]
  exact ⟨fun h x y hx hy => h y hy x hx, fun h y hy x hx => h x y hx hy⟩
theorem repB_mod (dx dy : Int) : repB a b bs (dx % (a : Int)) (dy % (b : Int)) = repB a b bs dx dy := by
  rw [Bool.eq_iff_iff, repB_iff, repB_iff]
  have e : ∀ x y : Nat, pl a b bs (x + dx % (a : Int)) (y + dy % (b : Int)) = pl a b bs (x + dx) (y + dy) := fun x y => pl_congr (by simp) (by simp)
  exact ⟨fun h x y hx hy => (e x y).symm.trans (h x y hx hy), fun h x y hx hy => (e x y).trans (h x y hx hy)⟩
theorem repB_congr {dx dy dx' dy' : Int} (hx : dx % (a : Int) = dx' % (a : Int)) (hy : dy % (b : Int) = dy' % (b : Int)) : repB a b bs dx dy = repB a b bs dx' dy' := by
  rw [← repB_mod dx dy, hx, hy, repB_mod]
theorem repB_w : repB a b bs (a : Int) 0 = true := by
  rw [repB_iff]
  intro x y hx hy
  exact pl_congr (by simp) (by simp)
theorem repB_h : repB a b bs 0 (b : Int) = true := by
  rw [repB_iff]
  intro x y hx hy
  exact pl_congr (by simp) (by simp)
end

/-- A, B and C are the lattice of a grid. -/
structure IsLat (a b : Nat) (bs : List Bool) (A B C : Nat) : Prop where
  a1 : 1 ≤ A
  a2 : A ≤ a
  repA : repB a b bs A 0 = true
  leastA : ∀ k : Nat, 1 ≤ k → k < A → repB a b bs k 0 = false
  b1 : B < A
  c1 : 1 ≤ C
  c2 : C ≤ b
  repC : repB a b bs B C = true
  leastC : ∀ k l : Nat, 1 ≤ l → l < C → k < A → repB a b bs k l = false
  leastB : ∀ k : Nat, k < B → repB a b bs k C = false
theorem IsLat.unique {a b : Nat} {bs : List Bool} {A B C A' B' C' : Nat} (h : IsLat a b bs A B C) (h' : IsLat a b bs A' B' C') : A = A' ∧ B = B' ∧ C = C' := by
  have eA : A = A' := by
    rcases Nat.lt_trichotomy A A' with l | l | l
    · have := h'.leastA A h.a1 l
      rw [h.repA] at this; cases this
    · exact l
    · have := h.leastA A' h'.a1 l
      rw [h'.repA] at this; cases this
  subst eA
  have eC : C = C' := by
    rcases Nat.lt_trichotomy C C' with l | l | l
    · have := h'.leastC B C h.c1 l h.b1
      rw [h.repC] at this; cases this
    · exact l
    · have := h.leastC B' C' h'.c1 l h'.b1
      rw [h'.repC] at this; cases this
  subst eC
  have eB : B = B' := by
    rcases Nat.lt_trichotomy B B' with l | l | l
    · have := h'.leastB B l
      rw [h.repC] at this; cases this
    · exact l
    · have := h.leastB B' l
      rw [h'.repC] at this; cases this
  exact ⟨rfl, eB, rfl⟩

/-! The lattice as a function: what both functions compute. -/
/-- The least number from k on, below k + n, that meets p; k + n if none does. -/
def least (p : Nat → Bool) : Nat → Nat → Nat
  | k, 0 => k
  | k, n + 1 => if p k then k else least p (k + 1) n
theorem least_spec (p : Nat → Bool) : ∀ (n k : Nat), k ≤ least p k n ∧ least p k n ≤ k + n ∧ (∀ j, k ≤ j → j < least p k n → p j = false) ∧ (least p k n < k + n → p (least p k n) = true)
  | 0, k => ⟨Nat.le_refl _, Nat.le_refl _, fun j h1 h2 => absurd h2 (by simp only [least]; omega), fun h => absurd h (by simp only [least]; omega)⟩
  | n + 1, k => by
    simp only [least]
    by_cases h : p k = true
    · rw [if_pos h]
      exact ⟨Nat.le_refl _, by omega, fun j h1 h2 => by omega, fun _ => h⟩
    · rw [if_neg h]
      obtain ⟨h1, h2, h3, h4⟩ := least_spec p n (k + 1)
      refine ⟨by omega, by omega, fun j hj1 hj2 => ?_, fun hl => h4 (by omega)⟩
      by_cases e : j = k
      · subst e; simpa using h
      · exact h3 j (by omega) hj2
def latA (a b : Nat) (bs : List Bool) : Nat := least (fun k => repB a b bs k 0) 1 (a - 1)
def latC (a b : Nat) (bs : List Bool) : Nat := least (fun l => (List.range (latA a b bs)).any fun k => repB a b bs k l) 1 (b - 1)
def latB (a b : Nat) (bs : List Bool) : Nat := least (fun k => repB a b bs k (latC a b bs)) 0 (latA a b bs - 1)
theorem lat_is {a b : Nat} {bs : List Bool} (ha : 1 ≤ a) (hb : 1 ≤ b) : IsLat a b bs (latA a b bs) (latB a b bs) (latC a b bs) := by
  obtain ⟨a1, a2, a3, a4⟩ := least_spec (fun k => repB a b bs k 0) (a - 1) 1
  obtain ⟨c1, c2, c3, c4⟩ := least_spec (fun l => (List.range (latA a b bs)).any fun k => repB a b bs k l) (b - 1) 1
  obtain ⟨b1, b2, b3, b4⟩ := least_spec (fun k => repB a b bs k (latC a b bs)) (latA a b bs - 1) 0
  have hA : repB a b bs (latA a b bs) 0 = true := by
    by_cases h : latA a b bs < 1 + (a - 1)
    · exact a4 h
    · have : latA a b bs = a := by unfold latA at h ⊢; omega
      rw [this]; exact repB_w
  have hC : ((List.range (latA a b bs)).any fun k => repB a b bs k (latC a b bs)) = true := by
    by_cases h : latC a b bs < 1 + (b - 1)
    · exact c4 h
    · have : latC a b bs = b := by unfold latC at h ⊢; omega
      rw [this, List.any_eq_true]
      exact ⟨0, by rw [List.mem_range]; exact a1, repB_h⟩
  rw [List.any_eq_true] at hC
  obtain ⟨k, hk, hkr⟩ := hC
  rw [List.mem_range] at hk
  have hA1 : 1 ≤ latA a b bs := a1
  have hB : repB a b bs (latB a b bs) (latC a b bs) = true := by
    by_cases h : latB a b bs < 0 + (latA a b bs - 1)
    · exact b4 h
    · have e : latB a b bs = latA a b bs - 1 := by unfold latB at h ⊢; omega
      have hk2 : k = latA a b bs - 1 := by
        rcases Nat.lt_or_ge k (latB a b bs) with h2 | h2
        · have := b3 k (Nat.zero_le _) h2
          rw [hkr] at this; cases this
        · omega
      rw [e, ← hk2]; exact hkr
  refine ⟨a1, by unfold latA; omega, hA, fun k h1 h2 => a3 k h1 h2, by unfold latB; omega, c1, by unfold latC; omega, hB, fun k l h1 h2 h3 => ?_, fun k h1 => b3 k (Nat.zero_le _) h1⟩
  have := c3 l h1 h2
  rw [List.any_eq_false] at this
  simpa using this k (by rw [List.mem_range]; exact h3)

/-! A row turned around. -/
def rowL (a b : Nat) (bs : List Bool) (y : Int) : List Bool := (List.range a).map fun x : Nat => pl a b bs (x : Int) y
theorem rowL_len {a b : Nat} {bs : List Bool} {y : Int} : (rowL a b bs y).length = a := by simp [rowL]
theorem rowL_get {a b : Nat} {bs : List Bool} {y : Int} {x : Nat} (hx : x < a) : (rowL a b bs y)[x]? = some (pl a b bs x y) := by simp [rowL, hx]
def turnedB (p q : List Bool) (d : Nat) : Bool := decide (p.drop d = q.take (q.length - d)) && decide (p.take d = q.drop (q.length - d))
theorem turnedB_iff {a b : Nat} {bs : List Bool} {y y' : Int} {d : Nat} (hd : d < a) : turnedB (rowL a b bs y') (rowL a b bs y) d = true ↔ ∀ x : Nat, x < a → pl a b bs (x + (d : Int)) y' = pl a b bs x y := by
  unfold turnedB
  rw [Bool.and_eq_true, decide_eq_true_iff, decide_eq_true_iff, rowL_len]
  have hmod : ∀ x : Nat, x < a → pl a b bs (x + (d : Int)) y' = (if x < a - d then pl a b bs ((x + d : Nat) : Int) y' else pl a b bs ((x - (a - d) : Nat) : Int) y') := fun x hx => by
    split
    · exact pl_congr (by rw [Int.natCast_add]) rfl
    · refine pl_congr ?_ rfl
      have : ((x : Int) + (d : Int)) = ((x - (a - d) : Nat) : Int) + (a : Int) := by omega
      rw [this]; simp
  constructor
  · rintro ⟨h1, h2⟩ x hx
    rw [hmod x hx]
    split
    · rename_i hlt
      have e := congrArg (fun l => l[x]?) h1
      simp only [List.getElem?_drop, List.getElem?_take] at e
      rw [if_pos hlt, rowL_get (by omega), rowL_get hx] at e
      injection e with e
      rw [Nat.add_comm x d]; exact e
    · rename_i hge
      have e := congrArg (fun l => l[x - (a - d)]?) h2
      simp only [List.getElem?_drop, List.getElem?_take] at e
      rw [if_pos (by omega), show a - d + (x - (a - d)) = x by omega, rowL_get (by omega), rowL_get hx] at e
      injection e
  · intro h
    constructor
    · apply List.ext_getElem?
      intro i
      simp only [List.getElem?_drop, List.getElem?_take]
      by_cases hi : i < a - d
      · rw [if_pos hi, rowL_get (by omega), rowL_get (by omega)]
        have e := h i (by omega)
        rw [hmod i (by omega), if_pos hi, Nat.add_comm i d] at e
        rw [e]
      · rw [if_neg hi, List.getElem?_eq_none (by rw [rowL_len]; omega)]
    · apply List.ext_getElem?
      intro i
      simp only [List.getElem?_drop, List.getElem?_take]
      by_cases hi : i < d
      · rw [if_pos hi, rowL_get (by omega), rowL_get (by omega)]
        have e := h (a - d + i) (by omega)
        rw [hmod _ (by omega), if_neg (by omega), show a - d + i - (a - d) = i by omega] at e
        rw [e]
      · rw [if_neg hi, List.getElem?_eq_none (by rw [rowL_len]; omega)]
/-- All rows, turned around, are the rows below. -/
theorem repB_rows {a b : Nat} {bs : List Bool} {d : Nat} {dy : Int} (hd : d < a) : repB a b bs d dy = true ↔ ∀ y : Nat, y < b → turnedB (rowL a b bs (y + dy)) (rowL a b bs y) d = true := by
  rw [repB_iff]
  constructor
  · intro h y hy
    rw [turnedB_iff hd]
    exact fun x hx => h x y hx hy
  · intro h x y hx hy
    exact (turnedB_iff hd).1 (h y hy) x hx

/-! Steps of a lattice. -/
def chkL (A B C : Int) : Int := if A < 1 ∨ 64 < A ∨ C < 1 ∨ 64 < C ∨ B < 0 ∨ A ≤ B then 8 else 0
def inB (A B C dx dy : Int) : Bool := decide (dy % C = 0 ∧ (dx - (dy / C) * B) % A = 0)
end Go.Proofs.YtliibficmdomjaaDoor
