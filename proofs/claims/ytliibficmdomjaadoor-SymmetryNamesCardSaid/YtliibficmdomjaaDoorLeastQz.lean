/- What the least form is: the first of all candidates that no candidate comes before. No program in sight. -/
import Derived.Test.YtliibficmdomjaaDoorMg7z
namespace Go.Proofs.YtliibficmdomjaaDoor
open Go.RowKit

theorem lexB_irrefl : ∀ l : List Bool, lexB l l = false
  | [] => rfl
  | p :: ps => by rw [lexB, if_pos rfl]; exact lexB_irrefl ps
theorem lexB_trans : ∀ {l m n : List Bool}, lexB l m = true → lexB m n = true → lexB l n = true
  | [], _, _, h, _ => by simp [lexB] at h
  | _ :: _, [], _, h, _ => by simp [lexB] at h
  | _ :: _, _ :: _, [], _, k => by simp [lexB] at k
  | p :: ps, q :: qs, r :: rs, h, k => by
    simp only [lexB] at h k ⊢
    by_cases h1 : p = q
    · subst h1
      rw [if_pos rfl] at h
      by_cases h2 : p = r
      · subst h2
        rw [if_pos rfl] at k ⊢
        exact lexB_trans h k
      · rw [if_neg h2] at k ⊢
        exact k
    · rw [if_neg h1] at h
      subst h
      by_cases h2 : true = r
      · subst h2
        rw [if_neg h1]
      · rw [if_neg h2] at k
        subst k
        simp at h2
theorem lexB_eq : ∀ {l m : List Bool}, l.length = m.length → lexB l m = false → lexB m l = false → l = m
  | [], [], _, _, _ => rfl
  | [], _ :: _, h, _, _ => by simp at h
  | _ :: _, [], h, _, _ => by simp at h
  | p :: ps, q :: qs, hl, h, k => by
    simp only [lexB] at h k
    by_cases h1 : p = q
    · subst h1
      rw [if_pos rfl] at h k
      rw [lexB_eq (by simpa using hl) h k]
    · rw [if_neg h1] at h
      rw [if_neg (Ne.symm h1)] at k
      subst h k
      exact absurd rfl h1
theorem before_irrefl (g : Gd) : beforeG g g = false := by
  unfold beforeG; rw [if_neg (by simp), if_neg (by simp), lexB_irrefl]
theorem before_trans {f g h : Gd} (k1 : beforeG f g = true) (k2 : beforeG g h = true) : beforeG f h = true := by
  unfold beforeG at *
  by_cases h1 : f.w = g.w
  · rw [if_neg (by simpa using h1)] at k1
    by_cases h2 : g.w = h.w
    · rw [if_neg (by simpa using h2)] at k2
      rw [if_neg (by simp; omega)]
      by_cases h3 : f.h = g.h
      · rw [if_neg (by simpa using h3)] at k1
        by_cases h4 : g.h = h.h
        · rw [if_neg (by simpa using h4)] at k2
          rw [if_neg (by simp; omega)]
          exact lexB_trans k1 k2
        · rw [if_pos h4] at k2
          have := of_decide_eq_true k2
          rw [if_pos (by omega)]
          exact decide_eq_true (by omega)
      · rw [if_pos h3] at k1
        have k1 := of_decide_eq_true k1
        by_cases h4 : g.h = h.h
        · rw [if_pos (by omega)]
          exact decide_eq_true (by omega)
        · rw [if_pos h4] at k2
          have k2 := of_decide_eq_true k2
          rw [if_pos (by omega)]
          exact decide_eq_true (by omega)
    · rw [if_pos h2] at k2
      have k2 := of_decide_eq_true k2
      rw [if_pos (by omega)]
      exact decide_eq_true (by omega)
  · rw [if_pos h1] at k1
    have k1 := of_decide_eq_true k1
    by_cases h2 : g.w = h.w
    · rw [if_pos (by omega)]
      exact decide_eq_true (by omega)
    · rw [if_pos h2] at k2
      have k2 := of_decide_eq_true k2
      rw [if_pos (by omega)]
      exact decide_eq_true (by omega)
theorem before_eq {f g : Gd} (hf : chkG f = 0) (hg : chkG g = 0) (k1 : beforeG f g = false) (k2 : beforeG g f = false) : f = g := by
  obtain ⟨a, b, e1, e2, _, _, _, _, e3⟩ := chk_zero hf
  obtain ⟨a', b', f1, f2, _, _, _, _, f3⟩ := chk_zero hg
  unfold beforeG at *
  by_cases h1 : f.w = g.w
  · rw [if_neg (by simpa using h1)] at k1
    rw [if_neg (by simpa using h1.symm)] at k2
    by_cases h3 : f.h = g.h
    · rw [if_neg (by simpa using h3)] at k1
      rw [if_neg (by simpa using h3.symm)] at k2
      have ea : a = a' := by omega
      have eb : b = b' := by omega
      have := lexB_eq (by rw [e3, f3, ea, eb]) k1 k2
      cases f; cases g
      simp_all
    · rw [if_pos h3] at k1
      rw [if_pos (Ne.symm h3)] at k2
      have k1 := of_decide_eq_false k1
      have k2 := of_decide_eq_false k2
      omega
  · rw [if_pos h1] at k1
    rw [if_pos (Ne.symm h1)] at k2
    have k1 := of_decide_eq_false k1
    have k2 := of_decide_eq_false k2
    omega

/-- The first of some candidates that none of them comes before. -/
structure LInv (Pr : Nat → Gd → Prop) (s : Gd × Nat) : Prop where
  mem : Pr s.2 s.1
  least : ∀ o f, Pr o f → beforeG f s.1 = false
  first : ∀ o f, Pr o f → o < s.2 → f ≠ s.1
theorem LInv.iff {Pr Pr' : Nat → Gd → Prop} {s : Gd × Nat} (h : LInv Pr s) (e : ∀ o f, Pr' o f ↔ Pr o f) : LInv Pr' s :=
  ⟨(e _ _).2 h.mem, fun o f hf => h.least o f ((e o f).1 hf), fun o f hf => h.first o f ((e o f).1 hf)⟩
theorem LInv.step {Pr : Nat → Gd → Prop} {s : Gd × Nat} (h : LInv Pr s) {op : Nat} (ho : ∀ o f, Pr o f → o ≤ op) (f : Gd) : LInv (fun o g => Pr o g ∨ (o = op ∧ g = f)) (stepL f op s) := by
  unfold stepL
  by_cases hb : beforeG f s.1 = true
  · rw [if_pos hb]
    refine ⟨.inr ⟨rfl, rfl⟩, ?_, ?_⟩
    · rintro o g (k | ⟨_, rfl⟩)
      · rcases Bool.eq_false_or_eq_true (beforeG g f) with e | e
        · have := before_trans e hb
          rw [h.least o g k] at this; cases this
        · exact e
      · exact before_irrefl _
    · rintro o g (k | ⟨rfl, rfl⟩) hlt
      · rintro rfl
        have := h.least o _ k
        rw [this] at hb; cases hb
      · exact absurd hlt (Nat.lt_irrefl _)
  · rw [if_neg hb]
    have hb : beforeG f s.1 = false := by simpa using hb
    refine ⟨.inl h.mem, ?_, ?_⟩
    · rintro o g (k | ⟨_, rfl⟩)
      · exact h.least o g k
      · exact hb
    · rintro o g (k | ⟨rfl, rfl⟩) hlt
      · exact h.first o g k hlt
      · have := ho _ _ h.mem
        omega
theorem LInv.unique {Pr : Nat → Gd → Prop} {s s' : Gd × Nat} (hc : ∀ o f, Pr o f → chkG f = 0) (h : LInv Pr s) (h' : LInv Pr s') : s = s' := by
  have e1 : s.1 = s'.1 := before_eq (hc _ _ h.mem) (hc _ _ h'.mem) (h'.least _ _ h.mem) (h.least _ _ h'.mem)
  have e2 : s.2 = s'.2 := by
    rcases Nat.lt_trichotomy s.2 s'.2 with l | l | l
    · exact absurd e1 (h'.first _ _ h.mem l)
    · exact l
    · exact absurd e1.symm (h.first _ _ h'.mem l)
  exact Prod.ext e1 e2
theorem foldN_inv {S : Type} {n : Nat} {f : Nat → S → S} {P : Nat → S → Prop} {s : S} (h0 : P 0 s) (hs : ∀ i, i < n → ∀ s, P i s → P (i + 1) (f i s)) : P n (foldN n f s) := by
  induction n with
  | zero => exact h0
  | succ n ih =>
    rw [foldN_succ]
    exact hs n (Nat.lt_succ_self n) _ (ih fun i hi => hs i (by omega))
section
variable {a b : Nat} {bs : List Bool}
theorem rowLs_inv {Pr : Nat → Gd → Prop} {s : Gd × Nat} {op y u v k : Nat} (h : LInv Pr s) (ho : ∀ o f, Pr o f → o ≤ op) :
    LInv (fun o g => Pr o g ∨ (o = op ∧ ∃ x, x < k ∧ g = winG a b bs x y u v)) (rowLs a b bs op y u v k s) := by
  unfold rowLs
  refine foldN_inv (P := fun i s => LInv (fun o g => Pr o g ∨ (o = op ∧ ∃ x, x < i ∧ g = winG a b bs x y u v)) s) (h.iff fun o f => ?_) fun i _ s hs => ?_
  · constructor
    · rintro (h | ⟨_, _, h, _⟩)
      · exact h
      · exact absurd h (Nat.not_lt_zero _)
    · exact .inl
  · refine (hs.step (op := op) ?_ (winG a b bs i y u v)).iff fun o f => ?_
    · rintro o f (h | ⟨rfl, _⟩)
      · exact ho o f h
      · exact Nat.le_refl _
    · constructor
      · rintro (h | ⟨rfl, x, hx, rfl⟩)
        · exact .inl (.inl h)
        · rcases Nat.lt_or_ge x i with l | l
          · exact .inl (.inr ⟨rfl, x, l, rfl⟩)
          · obtain rfl : x = i := by omega
            exact .inr ⟨rfl, rfl⟩
      · rintro ((h | ⟨rfl, x, hx, rfl⟩) | ⟨rfl, rfl⟩)
        · exact .inl h
        · exact .inr ⟨rfl, x, by omega, rfl⟩
        · exact .inr ⟨rfl, i, by omega, rfl⟩
theorem opLs_inv {Pr : Nat → Gd → Prop} {s : Gd × Nat} {op u v k : Nat} (h : LInv Pr s) (ho : ∀ o f, Pr o f → o ≤ op) :
    LInv (fun o g => Pr o g ∨ (o = op ∧ ∃ y, y < k ∧ ∃ x, x < u ∧ g = winG a b bs x y u v)) (opLs a b bs op u v k s) := by
  unfold opLs
  refine foldN_inv (P := fun i s => LInv (fun o g => Pr o g ∨ (o = op ∧ ∃ y, y < i ∧ ∃ x, x < u ∧ g = winG a b bs x y u v)) s) (h.iff fun o f => ?_) fun i _ s hs => ?_
  · constructor
    · rintro (h | ⟨_, _, h, _⟩)
      · exact h
      · exact absurd h (Nat.not_lt_zero _)
    · exact .inl
  · refine (rowLs_inv (k := u) (y := i) (u := u) (v := v) (a := a) (b := b) (bs := bs) hs (op := op) ?_).iff fun o f => ?_
    · rintro o f (h | ⟨rfl, _⟩)
      · exact ho o f h
      · exact Nat.le_refl _
    · constructor
      · rintro (h | ⟨rfl, y, hy, x, hx, rfl⟩)
        · exact .inl (.inl h)
        · rcases Nat.lt_or_ge y i with l | l
          · exact .inl (.inr ⟨rfl, y, l, x, hx, rfl⟩)
          · obtain rfl : y = i := by omega
            exact .inr ⟨rfl, x, hx, rfl⟩
      · rintro ((h | ⟨rfl, y, hy, x, hx, rfl⟩) | ⟨rfl, x, hx, rfl⟩)
        · exact .inl h
        · exact .inr ⟨rfl, y, by omega, x, hx, rfl⟩
        · exact .inr ⟨rfl, i, by omega, x, hx, rfl⟩
end
/-- The parts of a grid's plane with the sides of its least rectangle. -/
def WinOf (g f : Gd) : Prop := ∃ y, y < recV g.w.toNat g.h.toNat g.bits ∧ ∃ x, x < recU g.w.toNat g.h.toNat g.bits ∧ f = winG g.w.toNat g.h.toNat g.bits x y (recU g.w.toNat g.h.toNat g.bits) (recV g.w.toNat g.h.toNat g.bits)
theorem allLs_inv {a b : Nat} {bs : List Bool} (k : Nat) :
    LInv (fun o f => (o = 0 ∧ f = winG a b bs 0 0 (recU a b bs) (recV a b bs)) ∨ (o < k ∧ WinOf (oneD a b bs o) f)) (allLs a b bs k) := by
  unfold allLs
  refine foldN_inv (P := fun i s => LInv (fun o f => (o = 0 ∧ f = winG a b bs 0 0 (recU a b bs) (recV a b bs)) ∨ (o < i ∧ WinOf (oneD a b bs o) f)) s) ⟨.inl ⟨rfl, rfl⟩, ?_, ?_⟩ fun i _ s hs => ?_
  · rintro o f (⟨_, rfl⟩ | ⟨h, _⟩)
    · exact before_irrefl _
    · exact absurd h (Nat.not_lt_zero _)
  · intro o f _ h
    exact absurd h (Nat.not_lt_zero _)
  · refine (opLs_inv hs (op := i) ?_).iff fun o f => ?_
    · rintro o f (⟨rfl, _⟩ | ⟨h, _⟩) <;> omega
    · unfold WinOf
      constructor
      · rintro (h | ⟨h, w⟩)
        · exact .inl (.inl h)
        · rcases Nat.lt_or_ge o i with l | l
          · exact .inl (.inr ⟨l, w⟩)
          · obtain rfl : o = i := by omega
            exact .inr ⟨rfl, w⟩
      · rintro ((h | ⟨h, w⟩) | ⟨rfl, w⟩)
        · exact .inl h
        · exact .inr ⟨by omega, w⟩
        · exact .inr ⟨by omega, w⟩
end Go.Proofs.YtliibficmdomjaaDoor
