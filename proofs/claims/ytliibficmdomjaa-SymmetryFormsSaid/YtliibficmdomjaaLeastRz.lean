/- The least form as the reference finds it, and that it is the program's. No program in sight. -/
import Derived.Test.YtliibficmdomjaaFormQz
namespace Go.Proofs.Ytliibficmdomjaa
open Go.RowKit

def stepR (f : Gd) (op : Nat) : Option (Gd × Nat) → Option (Gd × Nat)
  | none => some (f, op)
  | some t => some (stepL f op t)
def colR (a b : Nat) (bs : List Bool) (op x u v k : Nat) (s : Option (Gd × Nat)) : Option (Gd × Nat) := foldN k (fun y s => stepR (winG a b bs x y u v) op s) s
def opR (a b : Nat) (bs : List Bool) (op u v k : Nat) (s : Option (Gd × Nat)) : Option (Gd × Nat) := foldN k (fun x s => colR a b bs op x u v v s) s
def allR (a b : Nat) (bs : List Bool) (k : Nat) : Option (Gd × Nat) :=
  foldN k (fun op s => opR (appG a b bs op).w.toNat (appG a b bs op).h.toNat (appG a b bs op).bits op (recU (appG a b bs op).w.toNat (appG a b bs op).h.toNat (appG a b bs op).bits) (recV (appG a b bs op).w.toNat (appG a b bs op).h.toNat (appG a b bs op).bits) (recU (appG a b bs op).w.toNat (appG a b bs op).h.toNat (appG a b bs op).bits) s) none
def RInv (Pr : Nat → Gd → Prop) : Option (Gd × Nat) → Prop
  | none => ∀ o f, ¬ Pr o f
  | some t => LInv Pr t
theorem RInv.iff {Pr Pr' : Nat → Gd → Prop} : ∀ {s : Option (Gd × Nat)}, RInv Pr s → (∀ o f, Pr' o f ↔ Pr o f) → RInv Pr' s
  | none, h, e => fun o f hf => h o f ((e o f).1 hf)
  | some _, h, e => LInv.iff h e
theorem RInv.step {Pr : Nat → Gd → Prop} : ∀ {s : Option (Gd × Nat)}, RInv Pr s → ∀ {op : Nat}, (∀ o f, Pr o f → o ≤ op) → ∀ f : Gd, RInv (fun o g => Pr o g ∨ (o = op ∧ g = f)) (stepR f op s)
  | none, h, op, _, f => ⟨.inr ⟨rfl, rfl⟩, fun o g hg => by
      rcases hg with hg | ⟨_, rfl⟩
      · exact absurd hg (h o g)
      · exact before_irrefl _, fun o g hg hlt => by
      rcases hg with hg | ⟨rfl, _⟩
      · exact absurd hg (h o g)
      · exact absurd hlt (Nat.lt_irrefl _)⟩
  | some _, h, _, ho, f => LInv.step h ho f
section
variable {a b : Nat} {bs : List Bool}
theorem colR_inv {Pr : Nat → Gd → Prop} {s : Option (Gd × Nat)} {op x u v k : Nat} (h : RInv Pr s) (ho : ∀ o f, Pr o f → o ≤ op) :
    RInv (fun o g => Pr o g ∨ (o = op ∧ ∃ y, y < k ∧ g = winG a b bs x y u v)) (colR a b bs op x u v k s) := by
  unfold colR
  refine foldN_inv (P := fun i s => RInv (fun o g => Pr o g ∨ (o = op ∧ ∃ y, y < i ∧ g = winG a b bs x y u v)) s) (h.iff fun o f => ?_) fun i _ s hs => ?_
  · constructor
    · rintro (h | ⟨_, _, h, _⟩)
      · exact h
      · exact absurd h (Nat.not_lt_zero _)
    · exact .inl
  · refine (hs.step (op := op) ?_ (winG a b bs x i u v)).iff fun o f => ?_
    · rintro o f (h | ⟨rfl, _⟩)
      · exact ho o f h
      · exact Nat.le_refl _
    · constructor
      · rintro (h | ⟨rfl, y, hy, rfl⟩)
        · exact .inl (.inl h)
        · rcases Nat.lt_or_ge y i with l | l
          · exact .inl (.inr ⟨rfl, y, l, rfl⟩)
          · obtain rfl : y = i := by omega
            exact .inr ⟨rfl, rfl⟩
      · rintro ((h | ⟨rfl, y, hy, rfl⟩) | ⟨rfl, rfl⟩)
        · exact .inl h
        · exact .inr ⟨rfl, y, by omega, rfl⟩
        · exact .inr ⟨rfl, i, by omega, rfl⟩
theorem opR_inv {Pr : Nat → Gd → Prop} {s : Option (Gd × Nat)} {op u v k : Nat} (h : RInv Pr s) (ho : ∀ o f, Pr o f → o ≤ op) :
    RInv (fun o g => Pr o g ∨ (o = op ∧ ∃ x, x < k ∧ ∃ y, y < v ∧ g = winG a b bs x y u v)) (opR a b bs op u v k s) := by
  unfold opR
  refine foldN_inv (P := fun i s => RInv (fun o g => Pr o g ∨ (o = op ∧ ∃ x, x < i ∧ ∃ y, y < v ∧ g = winG a b bs x y u v)) s) (h.iff fun o f => ?_) fun i _ s hs => ?_
  · constructor
    · rintro (h | ⟨_, _, h, _⟩)
      · exact h
      · exact absurd h (Nat.not_lt_zero _)
    · exact .inl
  · refine (colR_inv (k := v) (x := i) (u := u) (v := v) (a := a) (b := b) (bs := bs) hs (op := op) ?_).iff fun o f => ?_
    · rintro o f (h | ⟨rfl, _⟩)
      · exact ho o f h
      · exact Nat.le_refl _
    · constructor
      · rintro (h | ⟨rfl, x, hx, y, hy, rfl⟩)
        · exact .inl (.inl h)
        · rcases Nat.lt_or_ge x i with l | l
          · exact .inl (.inr ⟨rfl, x, l, y, hy, rfl⟩)
          · obtain rfl : x = i := by omega
            exact .inr ⟨rfl, y, hy, rfl⟩
      · rintro ((h | ⟨rfl, x, hx, y, hy, rfl⟩) | ⟨rfl, y, hy, rfl⟩)
        · exact .inl h
        · exact .inr ⟨rfl, x, by omega, y, hy, rfl⟩
        · exact .inr ⟨rfl, i, by omega, y, hy, rfl⟩
theorem allR_inv (k : Nat) : RInv (fun o f => o < k ∧ WinOf (appG a b bs o) f) (allR a b bs k) := by
  unfold allR
  refine foldN_inv (P := fun i s => RInv (fun o f => o < i ∧ WinOf (appG a b bs o) f) s) (fun o f h => absurd h.1 (Nat.not_lt_zero _)) fun i _ s hs => ?_
  refine (opR_inv hs (op := i) (fun o f h => Nat.le_of_lt h.1)).iff fun o f => ?_
  unfold WinOf
  constructor
  · rintro ⟨h, y, hy, x, hx, e⟩
    rcases Nat.lt_or_ge o i with l | l
    · exact .inl ⟨l, y, hy, x, hx, e⟩
    · obtain rfl : o = i := by omega
      exact .inr ⟨rfl, x, hx, y, hy, e⟩
  · rintro (⟨h, w⟩ | ⟨rfl, x, hx, y, hy, e⟩)
    · exact ⟨by omega, w⟩
    · exact ⟨by omega, y, hy, x, hx, e⟩
end
/-- The reference's least form is the program's. -/
theorem allRs_is {a b : Nat} {bs : List Bool} (hg : chkG ⟨a, b, bs⟩ = 0) : allR a b bs 16 = some (allLs a b bs 16) := by
  have hL := all_least hg
  have h := allR_inv (a := a) (b := b) (bs := bs) 16
  obtain ⟨a', b', f1, f2, ha1, ha, hb1, hb, hl⟩ := chkG_sides hg
  simp only at f1 f2 hl
  obtain rfl : a = a' := by omega
  obtain rfl : b = b' := by omega
  have hW : ∀ o f, WinOf (appG a b bs o) f ↔ Tight f ∧ AlkG ⟨a, b, bs⟩ f o := by
    intro o f
    have hA : AlkG ⟨a, b, bs⟩ f o ↔ PlM (appG a b bs o) f := by unfold AlkG appT; simp only [Int.toNat_natCast]
    rw [hA]
    have hc := app_chk (bs := bs) (m := o) ha1 hb1 ha hb
    obtain ⟨P, Q, e1, e2, hP1, hP, hQ1, hQ, _⟩ := chkG_sides hc
    generalize appG a b bs o = q at *
    obtain ⟨W, H, l⟩ := q
    simp only at e1 e2
    subst e1 e2
    exact win_iff hP1 hQ1 hP hQ
  have h2 := h.iff (Pr' := fun o f => o < 16 ∧ Tight f ∧ AlkG ⟨a, b, bs⟩ f o) fun o f => by rw [hW]
  generalize allR a b bs 16 = s at *
  cases s with
  | none => exact absurd hL.mem (h2 _ _)
  | some t => exact congrArg some (LInv.unique (fun o f k => k.2.1.chk_) h2 hL)
def bOf : Option (Gd × Nat) → Gd
  | none => Gd.zero
  | some t => t.1
def iOf : Option (Gd × Nat) → Int
  | none => -1
  | some t => (t.2 : Int)
theorem colR_zero {a b op x u v : Nat} {bs : List Bool} {s : Option (Gd × Nat)} : colR a b bs op x u v 0 s = s := rfl
theorem colR_succ {a b op x u v k : Nat} {bs : List Bool} {s : Option (Gd × Nat)} : colR a b bs op x u v (k + 1) s = stepR (winG a b bs x k u v) op (colR a b bs op x u v k s) := by unfold colR; rw [foldN_succ]
theorem opR_zero {a b op u v : Nat} {bs : List Bool} {s : Option (Gd × Nat)} : opR a b bs op u v 0 s = s := rfl
theorem opR_succ {a b op u v k : Nat} {bs : List Bool} {s : Option (Gd × Nat)} : opR a b bs op u v (k + 1) s = colR a b bs op k u v v (opR a b bs op u v k s) := by unfold opR; rw [foldN_succ]
theorem allR_zero {a b : Nat} {bs : List Bool} : allR a b bs 0 = none := rfl
theorem allR_succ {a b k P Q : Nat} {bs obs : List Bool} (h : appG a b bs k = ⟨P, Q, obs⟩) : allR a b bs (k + 1) = opR P Q obs k (recU P Q obs) (recV P Q obs) (recU P Q obs) (allR a b bs k) := by
  unfold allR
  rw [foldN_succ, h]
  rfl
/-- A part of a moved plane. -/
theorem shift_win {a b x y u v : Nat} {bs : List Bool} (ha1 : 1 ≤ a) (hb1 : 1 ≤ b) (ha : a ≤ 64) (hb : b ≤ 64) (hu1 : 1 ≤ u) (hv1 : 1 ≤ v) (hu : u ≤ a) (hv : v ≤ b) :
    partG (tabD a b fun i k => bs.getD ((((k : Int) - (-(y : Int))) % (b : Int)).toNat * a + (((i : Int) - (-(x : Int))) % (a : Int)).toNat) false) 0 0 (u : Int) (v : Int) = (winG a b bs x y u v, 0) := by
  rw [part_t ha1 hb1 ha hb hu1 hv1 hu hv]
  refine congrArg (fun g => (g, (0 : Int))) ?_
  unfold winG
  refine tabD_congr fun i k _ _ => ?_
  unfold winF
  have e1 : (((k : Int) - (-(y : Int))) % (b : Int)).toNat = (y + k) % b := by
    rw [show (k : Int) - (-(y : Int)) = ((y + k : Nat) : Int) by omega, ← Int.natCast_emod, Int.toNat_natCast]
  have e2 : (((i : Int) - (-(x : Int))) % (a : Int)).toNat = (x + i) % a := by
    rw [show (i : Int) - (-(x : Int)) = ((x + i : Nat) : Int) by omega, ← Int.natCast_emod, Int.toNat_natCast]
  rw [e1, e2]
end Go.Proofs.Ytliibficmdomjaa
