/- What giving a thread a colour comes to: states of knowledge of the threads of an image, closed ones, the first fit. No program in sight. -/
import Derived.Test.YtmajmbfbnchbfaaPlainz
namespace Go.Proofs.Ytmajmbfbnchbfaa

section
variable (n : Nat → Nat) (m : Nat → Nat → Nat → Int)
/-- Whoever has a colour that a cell does not show has its crossing thread show it. -/
def Clo (f : Nat → Nat → Int) : Prop := ∀ k i j, k < 2 → i < n k → j < n (1 - k) → 0 ≤ f k i → f k i ≠ m k i j → f (1 - k) j = m k i j
/-- The second one knows what the first one knows. -/
def Lo (f g : Nat → Nat → Int) : Prop := ∀ k i, k < 2 → i < n k → 0 ≤ f k i → g k i = f k i
def putF (f : Nat → Nat → Int) (k i : Nat) (c : Int) : Nat → Nat → Int := fun k' i' => if k' = k ∧ i' = i then c else f k' i'
/-- What follows from a thread's colour, for its first J crossings. -/
def gifts (k i : Nat) (c : Int) (J : Nat) : List (Nat × Nat × Int) := (List.range J).filterMap fun j => if m k i j = c then none else some (1 - k, j, m k i j)
structure GInv (f0 : Nat → Nat → Int) (k0 i0 : Nat) (c0 : Int) (f : Nat → Nat → Int) (todo : List (Nat × Nat × Int)) : Prop where
  le : Lo n f0 f
  forced : ∀ g, Clo n m g → Lo n f0 g → g k0 i0 = c0 → Lo n f g ∧ ∀ t ∈ todo, g t.1 t.2.1 = t.2.2
  pend : ∀ k i j, k < 2 → i < n k → j < n (1 - k) → 0 ≤ f k i → f k i ≠ m k i j → f (1 - k) j = m k i j ∨ (1 - k, j, m k i j) ∈ todo
  head : (k0, i0, c0) ∈ todo ∨ f k0 i0 = c0
  rng : ∀ t ∈ todo, t.1 < 2 ∧ t.2.1 < n t.1 ∧ 0 ≤ t.2.2 ∧ t.2.2 ≤ 15
  val : ∀ k i, k < 2 → i < n k → -1 ≤ f k i ∧ f k i ≤ 15
  pos : 0 ≤ c0
/-- The least closed state with this colour. -/
structure Given (f0 : Nat → Nat → Int) (k0 i0 : Nat) (c0 : Int) (f : Nat → Nat → Int) : Prop where
  clo : Clo n m f
  le : Lo n f0 f
  has : f k0 i0 = c0
  least : ∀ g, Clo n m g → Lo n f0 g → g k0 i0 = c0 → Lo n f g
  val : ∀ k i, k < 2 → i < n k → -1 ≤ f k i ∧ f k i ≤ 15
/-- No closed state has this colour. -/
def NoGive (f0 : Nat → Nat → Int) (k0 i0 : Nat) (c0 : Int) : Prop := ∀ g, Clo n m g → Lo n f0 g → g k0 i0 ≠ c0
end

section
variable {n : Nat → Nat} {m : Nat → Nat → Nat → Int} {f0 f g : Nat → Nat → Int} {k0 i0 k i : Nat} {c0 c : Int} {rest : List (Nat × Nat × Int)}
theorem putF_same : putF f k i c k i = c := by unfold putF; rw [if_pos ⟨rfl, rfl⟩]
theorem putF_other {k' i' : Nat} (h : ¬ (k' = k ∧ i' = i)) : putF f k i c k' i' = f k' i' := by unfold putF; rw [if_neg h]
theorem mem_gifts {J : Nat} {t : Nat × Nat × Int} : t ∈ gifts m k i c J ↔ ∃ j, j < J ∧ m k i j ≠ c ∧ t = (1 - k, j, m k i j) := by
  unfold gifts
  rw [List.mem_filterMap]
  constructor
  · rintro ⟨j, hj, h⟩
    split at h
    · cases h
    · rename_i hne
      injection h with h
      exact ⟨j, List.mem_range.1 hj, hne, h.symm⟩
  · rintro ⟨j, hj, hne, rfl⟩
    exact ⟨j, List.mem_range.2 hj, by rw [if_neg hne]⟩
theorem gifts_succ {j : Nat} : gifts m k i c (j + 1) = gifts m k i c j ++ (if m k i j = c then [] else [(1 - k, j, m k i j)]) := by
  unfold gifts
  rw [List.range_succ, List.filterMap_append]
  congr 1
  by_cases h : m k i j = c
  · simp [h]
  · simp [h]
theorem gifts_len {J : Nat} : (gifts m k i c J).length ≤ J := by
  unfold gifts
  exact Nat.le_trans (List.length_filterMap_le _ _) (by simp)
theorem GInv.start (hc : Clo n m f0) (hv : ∀ k i, k < 2 → i < n k → -1 ≤ f0 k i ∧ f0 k i ≤ 15) (hk : k0 < 2) (hi : i0 < n k0) (h0 : 0 ≤ c0) (h15 : c0 ≤ 15) : GInv n m f0 k0 i0 c0 f0 [(k0, i0, c0)] :=
  ⟨fun _ _ _ _ _ => rfl, fun g _ h2 h3 => ⟨h2, fun t ht => by rw [List.mem_singleton] at ht; subst ht; exact h3⟩, fun k i j h1 h2 h3 h4 h5 => .inl (hc k i j h1 h2 h3 h4 h5), .inl (by simp), fun t ht => by rw [List.mem_singleton] at ht; subst ht; exact ⟨hk, hi, h0, h15⟩, hv, h0⟩
theorem GInv.skip (h : GInv n m f0 k0 i0 c0 f ((k, i, c) :: rest)) (he : f k i = c) : GInv n m f0 k0 i0 c0 f rest := by
  refine ⟨h.le, fun g h1 h2 h3 => ?_, fun k' i' j h1 h2 h3 h4 h5 => ?_, ?_, fun t ht => h.rng t (List.mem_cons_of_mem _ ht), h.val, h.pos⟩
  · obtain ⟨h4, h5⟩ := h.forced g h1 h2 h3
    exact ⟨h4, fun t ht => h5 t (List.mem_cons_of_mem _ ht)⟩
  · rcases h.pend k' i' j h1 h2 h3 h4 h5 with h6 | h6
    · exact .inl h6
    · rcases List.mem_cons.1 h6 with h7 | h7
      · injection h7 with e1 h7
        injection h7 with e2 e3
        left
        rw [e3, e1, e2]
        exact he
      · exact .inr h7
  · rcases h.head with h6 | h6
    · rcases List.mem_cons.1 h6 with h7 | h7
      · injection h7 with e1 h7
        injection h7 with e2 e3
        right
        rw [e1, e2, e3]
        exact he
      · exact .inl h7
    · exact .inr h6
theorem GInv.fail (h : GInv n m f0 k0 i0 c0 f ((k, i, c) :: rest)) (hp : 0 ≤ f k i) (he : f k i ≠ c) : NoGive n m f0 k0 i0 c0 := fun g h1 h2 h3 => by
  obtain ⟨h4, h5⟩ := h.forced g h1 h2 h3
  obtain ⟨r1, r2, _⟩ := h.rng _ (List.mem_cons_self)
  have h6 := h4 k i r1 r2 hp
  have h7 := h5 _ (List.mem_cons_self)
  exact he (by rw [← h6]; exact h7)
theorem GInv.set (hm : ∀ k i j, k < 2 → i < n k → j < n (1 - k) → 0 ≤ m k i j ∧ m k i j ≤ 15) (h : GInv n m f0 k0 i0 c0 f ((k, i, c) :: rest)) (hp : f k i < 0) : GInv n m f0 k0 i0 c0 (putF f k i c) (rest ++ gifts m k i c (n (1 - k))) := by
  obtain ⟨r1, r2, r3, r4⟩ := h.rng _ (List.mem_cons_self)
  simp only at r1 r2 r3 r4
  refine ⟨fun k' i' h1 h2 h3 => ?_, fun g h1 h2 h3 => ?_, fun k' i' j h1 h2 h3 h4 h5 => ?_, ?_, fun t ht => ?_, fun k' i' h1 h2 => ?_, h.pos⟩
  · have h4 := h.le k' i' h1 h2 h3
    have h5 : ¬ (k' = k ∧ i' = i) := by
      rintro ⟨rfl, rfl⟩
      rw [h4] at hp
      omega
    rw [putF_other h5]
    exact h4
  · obtain ⟨h4, h5⟩ := h.forced g h1 h2 h3
    have h6 : g k i = c := h5 _ (List.mem_cons_self)
    refine ⟨fun k' i' q1 q2 q3 => ?_, fun t ht => ?_⟩
    · by_cases e : k' = k ∧ i' = i
      · obtain ⟨rfl, rfl⟩ := e
        rw [putF_same]; exact h6
      · rw [putF_other e] at q3 ⊢
        exact h4 k' i' q1 q2 q3
    · rcases List.mem_append.1 ht with ht | ht
      · exact h5 t (List.mem_cons_of_mem _ ht)
      · obtain ⟨j, hj, hne, rfl⟩ := mem_gifts.1 ht
        exact h1 k i j r1 r2 hj (by rw [h6]; exact r3) (by rw [h6]; exact fun e => hne e.symm)
  · by_cases e : k' = k ∧ i' = i
    · obtain ⟨rfl, rfl⟩ := e
      rw [putF_same] at h4 h5
      exact .inr (List.mem_append_right _ (mem_gifts.2 ⟨j, h3, fun e => h5 e.symm, rfl⟩))
    · rw [putF_other e] at h4 h5
      rcases h.pend k' i' j h1 h2 h3 h4 h5 with h6 | h6
      · left
        have hm1 := hm k' i' j h1 h2 h3
        have h8 : ¬ (1 - k' = k ∧ j = i) := by
          rintro ⟨e1, e2⟩
          rw [e1] at h6
          subst e2
          rw [h6] at hp
          omega
        rw [putF_other h8]
        exact h6
      · rcases List.mem_cons.1 h6 with h7 | h7
        · injection h7 with e1 h7
          injection h7 with e2 e3
          left
          rw [e3, e1, e2, putF_same]
        · exact .inr (List.mem_append_left _ h7)
  · rcases h.head with h6 | h6
    · rcases List.mem_cons.1 h6 with h7 | h7
      · injection h7 with e1 h7
        injection h7 with e2 e3
        right
        rw [e1, e2, putF_same, e3]
      · exact .inl (List.mem_append_left _ h7)
    · by_cases e : k0 = k ∧ i0 = i
      · obtain ⟨rfl, rfl⟩ := e
        have := h.pos
        omega
      · right
        rw [putF_other e]; exact h6
  · rcases List.mem_append.1 ht with ht | ht
    · exact h.rng t (List.mem_cons_of_mem _ ht)
    · obtain ⟨j, hj, hne, rfl⟩ := mem_gifts.1 ht
      have := hm k i j r1 r2 hj
      exact ⟨by simp only; omega, hj, this.1, this.2⟩
  · by_cases e : k' = k ∧ i' = i
    · obtain ⟨rfl, rfl⟩ := e
      rw [putF_same]; omega
    · rw [putF_other e]; exact h.val k' i' h1 h2
theorem GInv.done (h : GInv n m f0 k0 i0 c0 f []) : Given n m f0 k0 i0 c0 f :=
  ⟨fun k i j h1 h2 h3 h4 h5 => (h.pend k i j h1 h2 h3 h4 h5).resolve_right (by simp), h.le, h.head.resolve_left (by simp), fun g h1 h2 h3 => (h.forced g h1 h2 h3).1, h.val⟩

/-! Fits: each cell shows one of its threads. -/
/-- Colours of all threads that fit. -/
structure FitF (n : Nat → Nat) (m : Nat → Nat → Nat → Int) (F : Nat → Nat → Int) : Prop where
  fit : ∀ x y, x < n 0 → y < n 1 → F 0 x = m 0 x y ∨ F 1 y = m 0 x y
  val : ∀ k i, k < 2 → i < n k → 0 ≤ F k i ∧ F k i ≤ 15
theorem FitF.clo {F : Nat → Nat → Int} (hs : ∀ x y, m 1 y x = m 0 x y) (h : FitF n m F) : Clo n m F := fun k i j h1 h2 h3 h4 h5 => by
  rcases (show k = 0 ∨ k = 1 by omega) with rfl | rfl
  · rcases h.fit i j h2 h3 with e | e
    · exact absurd e h5
    · exact e
  · rw [hs] at h5 ⊢
    rcases h.fit j i h3 h2 with e | e
    · exact e
    · exact absurd e h5
/-- What is known, and elsewhere another one's colours. -/
def overF (f F : Nat → Nat → Int) : Nat → Nat → Int := fun k i => if 0 ≤ f k i then f k i else F k i
theorem overF_fit {F : Nat → Nat → Int} (hs : ∀ x y, m 1 y x = m 0 x y) (hc : Clo n m f) (hv : ∀ k i, k < 2 → i < n k → f k i ≤ 15) (h : FitF n m F) : FitF n m (overF f F) := by
  refine ⟨fun x y hx hy => ?_, fun k i hk hi => ?_⟩
  · unfold overF
    by_cases h0 : 0 ≤ f 0 x
    · rw [if_pos h0]
      by_cases e : f 0 x = m 0 x y
      · exact .inl e
      · right
        have h1 := hc 0 x y (by omega) hx hy h0 e
        simp only [Nat.sub_zero] at h1
        by_cases h2 : 0 ≤ f 1 y
        · rw [if_pos h2]; exact h1
        · rw [if_neg h2]
          rcases h.fit x y hx hy with e2 | e2
          · have := (h.val 0 x (by omega) hx).1
            omega
          · exact e2
    · rw [if_neg h0]
      by_cases h2 : 0 ≤ f 1 y
      · rw [if_pos h2]
        by_cases e : f 1 y = m 0 x y
        · exact .inr e
        · have h1 := hc 1 y x (by omega) hy hx h2 (by rw [hs]; exact e)
          simp only [Nat.sub_self] at h1
          rw [hs] at h1
          rcases h.fit x y hx hy with e2 | e2
          · exact .inl e2
          · have := (h.val 1 y (by omega) hy).1
            exact absurd (show 0 ≤ f 0 x by rw [h1]; omega) h0
      · rw [if_neg h2]; exact h.fit x y hx hy
  · unfold overF
    by_cases h0 : 0 ≤ f k i
    · rw [if_pos h0]; exact ⟨h0, hv k i hk hi⟩
    · rw [if_neg h0]; exact h.val k i hk hi
theorem overF_lo {F : Nat → Nat → Int} : Lo n f (overF f F) := fun k i _ _ h => by unfold overF; rw [if_pos h]
theorem overF_at {F : Nat → Nat → Int} (h : f k i < 0) : overF f F k i = F k i := by unfold overF; rw [if_neg (by omega)]
/-- A colour that a fit has is given. -/
theorem give_of_fit {F : Nat → Nat → Int} (hs : ∀ x y, m 1 y x = m 0 x y) (hc : Clo n m f) (hv : ∀ k i, k < 2 → i < n k → f k i ≤ 15) (h : FitF n m F) (hf : f k0 i0 < 0) (he : F k0 i0 = c0) : ¬ NoGive n m f k0 i0 c0 := fun hn =>
  hn (overF f F) ((overF_fit hs hc hv h).clo hs) overF_lo (by rw [overF_at hf]; exact he)
end
end Go.Proofs.Ytmajmbfbnchbfaa
