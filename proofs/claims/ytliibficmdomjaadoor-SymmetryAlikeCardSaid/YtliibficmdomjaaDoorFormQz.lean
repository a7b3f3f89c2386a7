/- Least forms: which grids are candidates, and what alike grids share. No program in sight. -/
import Derived.Test.YtliibficmdomjaaDoorMg18z
import Derived.Test.YtliibficmdomjaaDoorMg12z
namespace Go.Proofs.YtliibficmdomjaaDoor
open Go.RowKit

def gU (g : Gd) : Nat := recU g.w.toNat g.h.toNat g.bits
def gV (g : Gd) : Nat := recV g.w.toNat g.h.toNat g.bits
/-- The planes meet. -/
def PlM (g g' : Gd) : Prop := ∃ dx dy : Int, Meets g.w.toNat g.h.toNat g.bits g'.w.toNat g'.h.toNat g'.bits dx dy
theorem PlM.symm {g g' : Gd} (h : PlM g g') : PlM g' g := by
  obtain ⟨dx, dy, h⟩ := h
  exact ⟨_, _, h.turn⟩
theorem PlM.trans {g g' g'' : Gd} (h : PlM g g') (k : PlM g' g'') : PlM g g'' := by
  obtain ⟨dx, dy, h⟩ := h
  obtain ⟨ex, ey, k⟩ := k
  exact ⟨_, _, Meets.trans h k⟩
theorem PlM.refl (g : Gd) : PlM g g := ⟨0, 0, fun X Y => by simp⟩
theorem PlM.rec_ {g g' : Gd} (hg : chkG g = 0) (hg' : chkG g' = 0) (h : PlM g g') : gU g = gU g' ∧ gV g = gV g' := by
  obtain ⟨a, b, e1, e2, ha1, _, hb1, _, _⟩ := chkG_sides hg
  obtain ⟨a', b', f1, f2, ha1', _, hb1', _, _⟩ := chkG_sides hg'
  obtain ⟨dx, dy, h⟩ := h
  unfold gU gV
  rw [e1, e2, f1, f2] at *
  simp only [Int.toNat_natCast] at *
  exact rec_meets ha1 hb1 ha1' hb1' h
/-- A grid that is its own least rectangle. -/
structure Tight (f : Gd) : Prop where
  chk_ : chkG f = 0
  w_ : f.w = (gU f : Int)
  h_ : f.h = (gV f : Int)
theorem win_chk {a b : Nat} {bs : List Bool} (ha1 : 1 ≤ a) (hb1 : 1 ≤ b) (ha : a ≤ 64) (hb : b ≤ 64) (x y : Nat) : chkG (winG a b bs x y (recU a b bs) (recV a b bs)) = 0 := by
  obtain ⟨h1, h2, h3, h4⟩ := rec_pos (bs := bs) ha1 hb1
  exact tabD_chk h1 h2 (Nat.le_trans (Nat.le_of_dvd ha1 h3) ha) (Nat.le_trans (Nat.le_of_dvd hb1 h4) hb)
theorem win_plm {a b : Nat} {bs : List Bool} (ha1 : 1 ≤ a) (hb1 : 1 ≤ b) (x y : Nat) : PlM ⟨a, b, bs⟩ (winG a b bs x y (recU a b bs) (recV a b bs)) := by
  refine ⟨-(x : Int), -(y : Int), fun X Y => ?_⟩
  have h := pl_win (bs := bs) ha1 hb1 x y (X + -(x : Int)) (Y + -(y : Int))
  show pl (Int.toNat (a : Int)) (Int.toNat (b : Int)) bs X Y = pl (Int.toNat (recU a b bs : Int)) (Int.toNat (recV a b bs : Int)) _ _ _
  simp only [Int.toNat_natCast]
  rw [h]
  congr 1 <;> omega
/-- The windows of a grid are the tight grids that have its plane. -/
theorem win_iff {a b : Nat} {bs : List Bool} (ha1 : 1 ≤ a) (hb1 : 1 ≤ b) (ha : a ≤ 64) (hb : b ≤ 64) {f : Gd} : WinOf ⟨a, b, bs⟩ f ↔ Tight f ∧ PlM ⟨a, b, bs⟩ f := by
  obtain ⟨h1, h2, h3, h4⟩ := rec_pos (bs := bs) ha1 hb1
  have hg : ∀ {f : Gd}, chkG f = 0 → PlM ⟨a, b, bs⟩ f → recU a b bs = gU f ∧ recV a b bs = gV f := by
    intro f hf hm
    obtain ⟨a', b', f1, f2, ha1', _, hb1', _, _⟩ := chkG_sides hf
    obtain ⟨dx, dy, h⟩ := hm
    unfold gU gV
    rw [f1, f2] at *
    simp only [Int.toNat_natCast] at *
    exact rec_meets ha1 hb1 ha1' hb1' h
  unfold WinOf
  simp only [Int.toNat_natCast]
  constructor
  · rintro ⟨y, _, x, _, rfl⟩
    have hc := win_chk (bs := bs) ha1 hb1 ha hb x y
    have hm := win_plm (bs := bs) ha1 hb1 x y
    have e := hg hc hm
    exact ⟨⟨hc, congrArg Int.ofNat e.1, congrArg Int.ofNat e.2⟩, hm⟩
  · rintro ⟨ht, hm⟩
    obtain ⟨e1, e2⟩ := hg ht.chk_ hm
    obtain ⟨W, H, l⟩ := f
    have hw := ht.w_
    have hh := ht.h_
    rw [← e1] at hw
    rw [← e2] at hh
    simp only at hw hh
    subst hw hh
    obtain ⟨a', b', f1, f2, _, _, _, _, hl⟩ := chkG_sides ht.chk_
    simp only at f1 f2 hl
    obtain ⟨dx, dy, h⟩ := hm
    simp only [Int.toNat_natCast] at h
    clear hg ht e1 e2
    generalize recU a b bs = U at *
    generalize recV a b bs = V at *
    obtain rfl : U = a' := by omega
    obtain rfl : V = b' := by omega
    have x1 := Int.emod_nonneg (-dx) (show (U : Int) ≠ 0 by omega)
    have y1 := Int.emod_nonneg (-dy) (show (V : Int) ≠ 0 by omega)
    have x2 := Int.emod_lt_of_pos (-dx) (show 0 < (U : Int) by omega)
    have y2 := Int.emod_lt_of_pos (-dy) (show 0 < (V : Int) by omega)
    refine ⟨((-dy) % (V : Int)).toNat, by omega, ((-dx) % (U : Int)).toNat, by omega, ?_⟩
    rw [win_tab ha1 hb1, gd_tab hl]
    refine tabD_congr fun i k hi hk => ?_
    rw [h, ← pl_nat hi hk]
    refine pl_congr ?_ ?_
    · rw [Int.toNat_of_nonneg x1, show (-dx) % (U : Int) + (i : Int) + dx = (-dx) % (U : Int) + ((i : Int) + dx) by omega, Int.emod_add_emod]
      congr 1; omega
    · rw [Int.toNat_of_nonneg y1, show (-dy) % (V : Int) + (k : Int) + dy = (-dy) % (V : Int) + ((k : Int) + dy) by omega, Int.emod_add_emod]
      congr 1; omega
theorem PlM.app {g g' : Gd} (hg : chkG g = 0) (hg' : chkG g' = 0) (h : PlM g g') (n : Nat) : PlM (appT g n) (appT g' n) := by
  obtain ⟨a, b, e1, e2, ha1, _, hb1, _, _⟩ := chkG_sides hg
  obtain ⟨a', b', f1, f2, ha1', _, hb1', _, _⟩ := chkG_sides hg'
  obtain ⟨dx, dy, h⟩ := h
  unfold appT PlM
  rw [e1, e2, f1, f2] at *
  simp only [Int.toNat_natCast] at *
  exact Meets.app ha1 hb1 ha1' hb1' h n
/-- A grid is alike with a form by an operation. -/
def AlkG (g f : Gd) (o : Nat) : Prop := PlM (appT g o) f
theorem appT_chk {g : Gd} (hg : chkG g = 0) (o : Nat) : chkG (appT g o) = 0 := by
  obtain ⟨a, b, e1, e2, ha1, ha, hb1, hb, _⟩ := chkG_sides hg
  unfold appT
  rw [e1, e2]
  exact app_chk ha1 hb1 ha hb
theorem alkG_zero {g : Gd} (hg : chkG g = 0) : AlkG g g 0 := by
  obtain ⟨a, b, e1, e2, _, _, _, _, hl⟩ := chkG_sides hg
  obtain ⟨W, H, bs⟩ := g
  simp only at e1 e2 hl
  subst e1 e2
  unfold AlkG appT
  simp only [Int.toNat_natCast]
  rw [app_zero hl]
  exact PlM.refl _
theorem AlkG.comp {g g' g'' : Gd} (hg : chkG g = 0) (hg' : chkG g' = 0) {m n : Nat} (hm : m < 16) (hn : n < 16) (h : AlkG g g' m) (k : AlkG g' g'' n) : AlkG g g'' (compN m n) := by
  have e : appT (appT g m) n = appT g (compN m n) := app_app hm hn
  unfold AlkG at *
  rw [← e]
  exact (PlM.app (appT_chk hg m) hg' h n).trans k
theorem AlkG.inv {g g' : Gd} (hg : chkG g = 0) (hg' : chkG g' = 0) {m : Nat} (hm : m < 16) (h : AlkG g g' m) : AlkG g' g (invN m) := by
  have e : appT (appT g m) (invN m) = g := by
    obtain ⟨a, b, e1, e2, _, _, _, _, hl⟩ := chkG_sides hg
    obtain ⟨W, H, bs⟩ := g
    simp only at e1 e2 hl
    subst e1 e2
    exact app_back hl hm
  unfold AlkG at *
  have k := PlM.app (appT_chk hg m) hg' h (invN m)
  rw [e] at k
  exact k.symm
/-- What a least form is. -/
def IsLeast (g : Gd) (s : Gd × Nat) : Prop := LInv (fun o f => o < 16 ∧ Tight f ∧ AlkG g f o) s
theorem one_iff {a b : Nat} {bs : List Bool} (ha1 : 1 ≤ a) (hb1 : 1 ≤ b) (ha : a ≤ 64) (hb : b ≤ 64) (o : Nat) {f : Gd} : WinOf (oneD a b bs o) f ↔ Tight f ∧ PlM (appG a b bs o) f := by
  have hw := win_chk (bs := bs) ha1 hb1 ha hb 0 0
  have hc := appT_chk hw o
  have hm : PlM (appG a b bs o) (oneD a b bs o) := by
    rw [show appG a b bs o = appT ⟨a, b, bs⟩ o from rfl]
    obtain ⟨dx, dy, h⟩ := win_plm (bs := bs) ha1 hb1 0 0
    obtain ⟨h1, h2, _, _⟩ := rec_pos (bs := bs) ha1 hb1
    simp only [winG, tabD, Int.toNat_natCast] at h
    unfold oneD appT winG tabD PlM
    simp only [Int.toNat_natCast]
    exact Meets.app ha1 hb1 h1 h2 h o
  have hx : oneD a b bs o = appT (winG a b bs 0 0 (recU a b bs) (recV a b bs)) o := rfl
  rw [← hx] at hc
  obtain ⟨P, Q, e1, e2, hP1, hP, hQ1, hQ, _⟩ := chkG_sides hc
  generalize oneD a b bs o = q at *
  obtain ⟨W, H, l⟩ := q
  simp only at e1 e2
  subst e1 e2
  rw [win_iff hP1 hQ1 hP hQ]
  constructor
  · rintro ⟨h1, h2⟩
    exact ⟨h1, hm.trans h2⟩
  · rintro ⟨h1, h2⟩
    exact ⟨h1, hm.symm.trans h2⟩
theorem all_least {a b : Nat} {bs : List Bool} (hg : chkG ⟨a, b, bs⟩ = 0) : IsLeast ⟨a, b, bs⟩ (allLs a b bs 16) := by
  obtain ⟨a', b', f1, f2, ha1, ha, hb1, hb, hl⟩ := chkG_sides hg
  simp only at f1 f2 hl
  obtain rfl : a = a' := by omega
  obtain rfl : b = b' := by omega
  refine (allLs_inv (a := a) (b := b) (bs := bs) 16).iff fun o f => ?_
  rw [one_iff ha1 hb1 ha hb]
  have hA : AlkG ⟨a, b, bs⟩ f o ↔ PlM (appG a b bs o) f := by unfold AlkG appT; simp only [Int.toNat_natCast]
  rw [hA]
  constructor
  · rintro ⟨h1, h2⟩
    exact .inr ⟨h1, h2⟩
  · rintro (⟨rfl, rfl⟩ | h)
    · refine ⟨by omega, ?_⟩
      obtain ⟨h1, h2, _, _⟩ := rec_pos (bs := bs) ha1 hb1
      rw [app_zero hl]
      exact (win_iff ha1 hb1 ha hb).1 ⟨0, by simp only [Int.toNat_natCast]; omega, 0, by simp only [Int.toNat_natCast]; omega, by simp only [Int.toNat_natCast]⟩
    · exact h
theorem leastG_is {g : Gd} (h : startG g = 0) : leastG g = (allLs g.w.toNat g.h.toNat g.bits 16, 0) ∧ IsLeast g (allLs g.w.toNat g.h.toNat g.bits 16) := by
  have hc := (startG_zero h).1
  obtain ⟨a, b, e1, e2, _⟩ := chkG_sides hc
  refine ⟨by unfold leastG; rw [if_neg (by omega)], ?_⟩
  obtain ⟨W, H, bs⟩ := g
  simp only at e1 e2
  subst e1 e2
  simp only [Int.toNat_natCast]
  exact all_least hc
section
variable {g g' : Gd} {s s' : Gd × Nat} (hg : chkG g = 0) (hs : IsLeast g s)
include hg hs
theorem least_same (hg' : chkG g' = 0) (hs' : IsLeast g' s') {o : Nat} (ho : o < 16) (h : AlkG g g' o) : s.1 = s'.1 := by
  obtain ⟨h1, h2, h3⟩ := hs.mem
  obtain ⟨k1, k2, k3⟩ := hs'.mem
  exact before_eq h2.chk_ k2.chk_ (hs'.least _ _ ⟨compN_lt (invN_lt ho) h1, h2, (AlkG.inv hg hg' ho h).comp hg' hg (invN_lt ho) h1 h3⟩) (hs.least _ _ ⟨compN_lt ho k1, k2, h.comp hg hg' ho k1 k3⟩)
theorem same_alike (hg' : chkG g' = 0) (hs' : IsLeast g' s') (h : s.1 = s'.1) : ∃ o, o < 16 ∧ AlkG g g' o := by
  obtain ⟨h1, h2, h3⟩ := hs.mem
  obtain ⟨k1, k2, k3⟩ := hs'.mem
  rw [← h] at k2 k3
  exact ⟨_, compN_lt h1 (invN_lt k1), h3.comp hg h2.chk_ h1 (invN_lt k1) (AlkG.inv hg' k2.chk_ k1 k3)⟩
theorem least_own (hs' : IsLeast s.1 s') : s' = (s.1, 0) := by
  obtain ⟨h1, h2, h3⟩ := hs.mem
  have e := least_same hg hs h2.chk_ hs' h1 h3
  refine Prod.ext e.symm ?_
  rcases Nat.eq_zero_or_pos s'.2 with z | z
  · exact z
  · exact absurd e (hs'.first 0 s.1 ⟨by omega, h2, alkG_zero h2.chk_⟩ z)
omit hg in
theorem least_place {f : Gd} (h : Tight f) (k : PlM s.1 f) : beforeG f s.1 = false := by
  obtain ⟨h1, h2, h3⟩ := hs.mem
  exact hs.least _ _ ⟨h1, h, PlM.trans h3 k⟩
end
end Go.Proofs.YtliibficmdomjaaDoor
