/- The first colours that fit an image: the search without a way back finds the least fit. No program in sight. -/
import Derived.Test.YtmajmbfbnchbfaaGivePz
namespace Go.Proofs.Ytmajmbfbnchbfaa

/-- A thread stands before another one. -/
def Bef (k i k' i' : Nat) : Prop := k' < k ∨ k' = k ∧ i' < i
section
variable (n : Nat → Nat) (m : Nat → Nat → Nat → Int)
/-- Two colourings agree on the threads before one. -/
def Agree (k i : Nat) (g f : Nat → Nat → Int) : Prop := ∀ k' i', k' < 2 → i' < n k' → Bef k i k' i' → g k' i' = f k' i'
/-- F is f on the threads before one, or stands behind it. -/
def LexLe (k i : Nat) (f F : Nat → Nat → Int) : Prop := Agree n k i F f ∨ ∃ kd jd, kd < 2 ∧ jd < n kd ∧ Bef k i kd jd ∧ f kd jd < F kd jd ∧ Agree n kd jd F f
structure FInv (k i : Nat) (f : Nat → Nat → Int) : Prop where
  clo : Clo n m f
  val : ∀ k i, k < 2 → i < n k → -1 ≤ f k i ∧ f k i ≤ 15
  set : ∀ k' i', k' < 2 → i' < n k' → Bef k i k' i' → 0 ≤ f k' i'
  least : ∀ g, Clo n m g → Agree n k i g f → Lo n f g
  lex : ∀ F, FitF n m F → LexLe n k i f F
end
section
variable {n : Nat → Nat} {m : Nat → Nat → Nat → Int} {f f' : Nat → Nat → Int} {k i : Nat} {c : Int}
theorem bef_succ {k' i' : Nat} (h : Bef k (i + 1) k' i') : Bef k i k' i' ∨ k' = k ∧ i' = i := by unfold Bef at *; omega
theorem bef_up {k' i' : Nat} (h : Bef k i k' i') : Bef k (i + 1) k' i' := by unfold Bef at *; omega
theorem bef_self : Bef k (i + 1) k i := by unfold Bef; omega
theorem bef_trans {kd jd k' i' : Nat} (h : Bef k i kd jd) (h2 : Bef kd jd k' i') : Bef k i k' i' := by unfold Bef at *; omega
theorem Agree.up {g : Nat → Nat → Int} (h : Agree n k (i + 1) g f) : Agree n k i g f := fun k' i' h1 h2 h3 => h k' i' h1 h2 (bef_up h3)
theorem FInv.start : FInv n m 0 0 (fun _ _ => -1) :=
  ⟨fun k i j _ _ _ h => by simp at h, fun k i _ _ => by simp, fun k' i' _ _ h => by unfold Bef at h; omega, fun g _ _ k i _ _ h => by simp at h, fun F _ => .inl fun k' i' _ _ h => by unfold Bef at h; omega⟩
theorem FInv.known (hs : ∀ x y, m 1 y x = m 0 x y) (h : FInv n m k i f) (hk : k < 2) (hi : i < n k) (h0 : 0 ≤ f k i) : FInv n m k (i + 1) f := by
  refine ⟨h.clo, h.val, fun k' i' h1 h2 h3 => ?_, fun g h1 h2 => h.least g h1 h2.up, fun F hF => ?_⟩
  · rcases bef_succ h3 with h4 | ⟨rfl, rfl⟩
    · exact h.set k' i' h1 h2 h4
    · exact h0
  · rcases h.lex F hF with h1 | ⟨kd, jd, h1, h2, h3, h4, h5⟩
    · refine .inl fun k' i' q1 q2 q3 => ?_
      rcases bef_succ q3 with h4 | ⟨rfl, rfl⟩
      · exact h1 k' i' q1 q2 h4
      · exact h.least F (hF.clo hs) h1 k' i' q1 q2 h0
    · exact .inr ⟨kd, jd, h1, h2, bef_up h3, h4, h5⟩
theorem FInv.given (hs : ∀ x y, m 1 y x = m 0 x y) (h : FInv n m k i f) (hk : k < 2) (hi : i < n k) (h0 : f k i < 0) (hc : 0 ≤ c) (hg : Given n m f k i c f') (hno : ∀ c', 0 ≤ c' → c' < c → NoGive n m f k i c') : FInv n m k (i + 1) f' := by
  have hsame : ∀ k' i', k' < 2 → i' < n k' → Bef k i k' i' → f' k' i' = f k' i' := fun k' i' h1 h2 h3 => hg.le k' i' h1 h2 (h.set k' i' h1 h2 h3)
  refine ⟨hg.clo, hg.val, fun k' i' h1 h2 h3 => ?_, fun g h1 h2 => ?_, fun F hF => ?_⟩
  · rcases bef_succ h3 with h4 | ⟨rfl, rfl⟩
    · rw [hsame k' i' h1 h2 h4]; exact h.set k' i' h1 h2 h4
    · rw [hg.has]; exact hc
  · have h3 : Agree n k i g f := fun k' i' q1 q2 q3 => by rw [h2 k' i' q1 q2 (bef_up q3), hsame k' i' q1 q2 q3]
    exact hg.least g h1 (h.least g h1 h3) (by rw [h2 k i hk hi bef_self, hg.has])
  · rcases h.lex F hF with h1 | ⟨kd, jd, h1, h2, h3, h4, h5⟩
    · have hle : c ≤ F k i := by
        rcases Int.lt_or_le (F k i) c with hlt | hle
        · exact absurd (hno (F k i) (hF.val k i hk hi).1 hlt) (give_of_fit hs h.clo (fun k i q1 q2 => (h.val k i q1 q2).2) hF h0 rfl)
        · exact hle
      rcases Int.lt_or_eq_of_le hle with hlt | he
      · exact .inr ⟨k, i, hk, hi, bef_self, by rw [hg.has]; exact hlt, fun k' i' q1 q2 q3 => by rw [hsame k' i' q1 q2 q3]; exact h1 k' i' q1 q2 q3⟩
      · refine .inl fun k' i' q1 q2 q3 => ?_
        rcases bef_succ q3 with h4 | ⟨rfl, rfl⟩
        · rw [hsame k' i' q1 q2 h4]; exact h1 k' i' q1 q2 h4
        · rw [hg.has]; exact he.symm
    · exact .inr ⟨kd, jd, h1, h2, bef_up h3, by rw [hsame kd jd h1 h2 h3]; exact h4, fun k' i' q1 q2 q3 => by rw [hsame k' i' q1 q2 (bef_trans h3 q3)]; exact h5 k' i' q1 q2 q3⟩
theorem FInv.row (h : FInv n m k (n k) f) : FInv n m (k + 1) 0 f := by
  have hb : ∀ k' i', i' < n k' → (Bef (k + 1) 0 k' i' ↔ Bef k (n k) k' i') := fun k' i' hi => by
    unfold Bef
    constructor
    · intro q
      by_cases e : k' = k
      · subst e; exact .inr ⟨rfl, hi⟩
      · exact .inl (by omega)
    · intro q; left; omega
  have ha : ∀ g f : Nat → Nat → Int, Agree n (k + 1) 0 g f ↔ Agree n k (n k) g f := fun g f =>
    ⟨fun q k' i' h1 h2 h3 => q k' i' h1 h2 ((hb k' i' h2).2 h3), fun q k' i' h1 h2 h3 => q k' i' h1 h2 ((hb k' i' h2).1 h3)⟩
  refine ⟨h.clo, h.val, fun k' i' h1 h2 h3 => h.set k' i' h1 h2 ((hb k' i' h2).1 h3), fun g h1 h2 => h.least g h1 ((ha g f).1 h2), fun F hF => ?_⟩
  rcases h.lex F hF with h1 | ⟨kd, jd, h1, h2, h3, h4, h5⟩
  · exact .inl ((ha F f).2 h1)
  · exact .inr ⟨kd, jd, h1, h2, (hb kd jd h2).2 h3, h4, h5⟩
theorem FInv.fail (hs : ∀ x y, m 1 y x = m 0 x y) (h : FInv n m k i f) (hk : k < 2) (hi : i < n k) (h0 : f k i < 0) (hno : ∀ c', 0 ≤ c' → c' ≤ 15 → NoGive n m f k i c') : ¬ ∃ F, FitF n m F := fun ⟨F, hF⟩ =>
  give_of_fit hs h.clo (fun k i q1 q2 => (h.val k i q1 q2).2) hF h0 rfl (hno (F k i) (hF.val k i hk hi).1 (hF.val k i hk hi).2)
/-- All threads are coloured: a fit, and the least one. -/
theorem FInv.done (h : FInv n m 2 0 f) : FitF n m f ∧ ∀ F, FitF n m F → LexLe n 2 0 f F := by
  have h0 : ∀ k i, k < 2 → i < n k → 0 ≤ f k i := fun k i hk hi => h.set k i hk hi (.inl hk)
  refine ⟨⟨fun x y hx hy => ?_, fun k i hk hi => ⟨h0 k i hk hi, (h.val k i hk hi).2⟩⟩, h.lex⟩
  by_cases e : f 0 x = m 0 x y
  · exact .inl e
  · exact .inr (h.clo 0 x y (by omega) hx hy (h0 0 x (by omega) hx) e)
/-- The least fit is one. -/
theorem lex_unique {F : Nat → Nat → Int} (h1 : LexLe n 2 0 f F) (h2 : LexLe n 2 0 F f) : ∀ k i, k < 2 → i < n k → F k i = f k i := by
  rcases h1 with h | ⟨kd, jd, q1, q2, q3, q4, q5⟩
  · exact fun k i hk hi => h k i hk hi (.inl hk)
  · exfalso
    rcases h2 with h | ⟨ke, je, r1, r2, r3, r4, r5⟩
    · have := h kd jd q1 q2 q3
      omega
    · rcases (show Bef kd jd ke je ∨ Bef ke je kd jd ∨ (kd = ke ∧ jd = je) by unfold Bef; omega) with b | b | ⟨rfl, rfl⟩
      · have := q5 ke je r1 r2 b
        omega
      · have := r5 kd jd q1 q2 b
        omega
      · omega
/-- A choice of a thread: some fit has it. -/
theorem choice_fit (hs : ∀ x y, m 1 y x = m 0 x y) {F0 : Nat → Nat → Int} (hF0 : FitF n m F0) (hc : 0 ≤ c) (hg : Given n m (fun _ _ => -1) k i c f') : ∃ F, FitF n m F ∧ F k i = c := by
  refine ⟨overF f' F0, overF_fit hs hg.clo (fun k i q1 q2 => (hg.val k i q1 q2).2) hF0, ?_⟩
  unfold overF
  rw [hg.has, if_pos hc]
theorem choice_none (hs : ∀ x y, m 1 y x = m 0 x y) {F : Nat → Nat → Int} (hF : FitF n m F) (he : F k i = c) : ¬ NoGive n m (fun _ _ => -1) k i c :=
  give_of_fit hs (fun k i j _ _ _ h => by simp at h) (fun k i _ _ => by simp) hF (by simp) he

/-! The threads of an image. -/
def N2 (a b : Nat) (k : Nat) : Nat := if k = 0 then a else b
def M2 (a : Nat) (cs : List Int) (k i j : Nat) : Int := if k = 0 then cs.getD (j * a + i) 0 else cs.getD (i * a + j) 0
theorem m2_sym (a : Nat) (cs : List Int) (x y : Nat) : M2 a cs 1 y x = M2 a cs 0 x y := rfl
/-- Two lists of colours as one colouring. -/
def F2 (p q : List Int) (k i : Nat) : Int := if k = 0 then p.getD i (-1) else if k = 1 then q.getD i (-1) else -1
theorem f2_put0 {p q : List Int} {i : Nat} {c : Int} (hi : i < p.length) : putF (F2 p q) 0 i c = F2 (p.set i c) q := by
  funext k' i'
  unfold putF F2
  by_cases hk : k' = 0
  · rw [if_pos hk, if_pos hk]
    by_cases e : i' = i
    · subst e; rw [if_pos ⟨hk, rfl⟩, List.getD_eq_getElem?_getD, List.getElem?_set_self hi]; rfl
    · rw [if_neg (fun h => e h.2), List.getD_eq_getElem?_getD, List.getD_eq_getElem?_getD, List.getElem?_set_ne (fun h => e h.symm)]
  · rw [if_neg (fun h => hk h.1), if_neg hk, if_neg hk]
theorem f2_put1 {p q : List Int} {i : Nat} {c : Int} (hi : i < q.length) : putF (F2 p q) 1 i c = F2 p (q.set i c) := by
  funext k' i'
  unfold putF F2
  by_cases hk : k' = 0
  · rw [if_neg (fun h => by omega), if_pos hk, if_pos hk]
  · rw [if_neg hk, if_neg hk]
    by_cases h1 : k' = 1
    · rw [if_pos h1, if_pos h1]
      by_cases e : i' = i
      · subst e
        rw [if_pos ⟨h1, rfl⟩, List.getD_eq_getElem?_getD, List.getElem?_set_self hi]; rfl
      · rw [if_neg (fun h => e h.2), List.getD_eq_getElem?_getD, List.getD_eq_getElem?_getD, List.getElem?_set_ne (fun h => e h.symm)]
    · rw [if_neg (fun h => h1 h.1), if_neg h1, if_neg h1]
/-- A fit of two lists, cell by cell. -/
theorem f2_fit {a b : Nat} {cs p q : List Int} (hp : p.length = a) (hq : q.length = b) : (∀ x y, x < N2 a b 0 → y < N2 a b 1 → F2 p q 0 x = M2 a cs 0 x y ∨ F2 p q 1 y = M2 a cs 0 x y) ↔ ∀ x y, x < a → y < b → p.getD x 0 = cs.getD (y * a + x) 0 ∨ q.getD y 0 = cs.getD (y * a + x) 0 := by
  have e1 : ∀ x, x < a → F2 p q 0 x = p.getD x 0 := fun x hx => by
    unfold F2; rw [if_pos rfl, List.getD_eq_getElem?_getD, List.getD_eq_getElem?_getD, List.getElem?_eq_getElem (by omega)]; rfl
  have e2 : ∀ y, y < b → F2 p q 1 y = q.getD y 0 := fun y hy => by
    unfold F2; rw [if_neg (by omega), if_pos rfl, List.getD_eq_getElem?_getD, List.getD_eq_getElem?_getD, List.getElem?_eq_getElem (by omega)]; rfl
  constructor
  · intro h x y hx hy
    have := h x y hx hy
    rw [e1 x hx, e2 y hy] at this
    exact this
  · intro h x y hx hy
    rw [e1 x hx, e2 y hy]
    exact h x y hx hy
end
end Go.Proofs.Ytmajmbfbnchbfaa
