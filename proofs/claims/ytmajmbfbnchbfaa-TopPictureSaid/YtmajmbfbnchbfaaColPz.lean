/- What the laws of layer 14 need of fronts, backs and turned images, in plain Lean. No program in sight. -/
import Derived.Test.YtmajmbfbnchbfaaImz
namespace Go.Proofs.Ytmajmbfbnchbfaa
open Go.RowKit

theorem tab_getD {α : Type} {a b x y : Nat} (F : Nat → Nat → α) (d : α) (hx : x < a) (hy : y < b) : (Pl.tab a b F).getD (y * a + x) d = F x y := by
  rw [List.getD_eq_getElem?_getD, Pl.tab_get hx hy]; rfl
theorem frontF_fine {a b x y : Nat} {bs : List Bool} {p q : List Int} (hp : fineL p = true) (hq : fineL q = true) (hpl : p.length = a) (hql : q.length = b) (hx : x < a) (hy : y < b) :
    0 ≤ frontF a bs p q x y ∧ frontF a bs p q x y ≤ 15 := by
  have h1 := fineL_get hp (k := x) (by omega)
  have h2 := fineL_get hq (k := y) (by omega)
  unfold frontF
  split <;> omega
theorem backF_fine {a b x y : Nat} {bs : List Bool} {p q : List Int} (hp : fineL p = true) (hq : fineL q = true) (hpl : p.length = a) (hql : q.length = b) (hx : x < a) (hy : y < b) :
    0 ≤ backF a bs p q x y ∧ backF a bs p q x y ≤ 15 := by
  have h1 := fineL_get hp (k := a - 1 - x) (by omega)
  have h2 := fineL_get hq (k := y) (by omega)
  unfold backF
  split <;> omega
theorem chkI_tab {a b : Nat} {F : Nat → Nat → Int} (ha1 : 1 ≤ a) (ha : a ≤ 64) (hb1 : 1 ≤ b) (hb : b ≤ 64) (h : ∀ x y, x < a → y < b → 0 ≤ F x y ∧ F x y ≤ 15) : chkI ⟨a, b, Pl.tab a b F⟩ = 0 :=
  chkI_ok rfl rfl ha1 ha hb1 hb Pl.tab_length (fineL_tab h)
/-- A valid grid with valid thread colours. -/
theorem thr_open {g : Gd} {p q : List Int} (h : thr g p q = 0) : ∃ (a b : Nat) (bs : List Bool), g = ⟨a, b, bs⟩ ∧ 1 ≤ a ∧ a ≤ 64 ∧ 1 ≤ b ∧ b ≤ 64 ∧ bs.length = b * a ∧ p.length = a ∧ q.length = b ∧ fineL p = true ∧ fineL q = true := by
  obtain ⟨W, H, bs⟩ := g
  obtain ⟨h0, h1, h2, h3, h4⟩ := thr_zero h
  simp only at h1 h2
  obtain ⟨a, b, rfl, rfl, ha1, ha, hb1, hb, hn⟩ := chk_zero h0
  exact ⟨a, b, bs, rfl, ha1, ha, hb1, hb, hn, by omega, by omega, h3, h4⟩
theorem chkG_mk {a b : Nat} {bs : List Bool} (ha1 : 1 ≤ a) (ha : a ≤ 64) (hb1 : 1 ≤ b) (hb : b ≤ 64) (hl : bs.length = b * a) : chkG ⟨a, b, bs⟩ = 0 := by
  unfold chkG
  refine chk_ok (by simp; omega) (by simp; omega) (by simp; omega) (by simp; omega) ?_
  simp only [hl]
  rw [Nat.mul_comm]
  exact Int.natCast_mul a b
theorem thr_mk {a b : Nat} {bs : List Bool} {p q : List Int} (ha1 : 1 ≤ a) (ha : a ≤ 64) (hb1 : 1 ≤ b) (hb : b ≤ 64) (hl : bs.length = b * a) (hp : p.length = a) (hq : q.length = b) (h3 : fineL p = true) (h4 : fineL q = true) :
    thr ⟨a, b, bs⟩ p q = 0 :=
  thr_ok (chkG_mk ha1 ha hb1 hb hl) (by simp [hp]) (by simp [hq]) h3 h4
theorem frontI_mk {a b : Nat} {bs : List Bool} {p q : List Int} (h : thr ⟨a, b, bs⟩ p q = 0) : frontI ⟨a, b, bs⟩ p q = (⟨a, b, Pl.tab a b (frontF a bs p q)⟩, 0) := withThr_ok h
theorem backI_mk {a b : Nat} {bs : List Bool} {p q : List Int} (h : thr ⟨a, b, bs⟩ p q = 0) : backI ⟨a, b, bs⟩ p q = (⟨a, b, Pl.tab a b (backF a bs p q)⟩, 0) := withThr_ok h
theorem equalG_mk {p q : List Int} (h1 : 1 ≤ p.length) (h2 : p.length ≤ 64) (h3 : 1 ≤ q.length) (h4 : q.length ≤ 64) (h5 : fineL p = true) (h6 : fineL q = true) :
    equalG p q = (⟨p.length, q.length, Pl.tab p.length q.length fun x y => decide (q.getD y 0 = p.getD x 0)⟩, 0) := by
  unfold equalG
  rw [if_neg (by omega), if_neg (by rw [h5, h6]; simp)]
  rfl
/-- The cell that the back shows behind the cell (x, y). -/
theorem backF_mirror {a x y : Nat} {bs : List Bool} {p q : List Int} (hx : x < a) : backF a bs p q (a - 1 - x) y = if bs.getD (y * a + x) false then q.getD y 0 else p.getD x 0 := by
  unfold backF
  rw [show a - 1 - (a - 1 - x) = x by omega]

/-! A cell turned over. -/
theorem set_far {a x y u v : Nat} {bs : List Bool} {p q : List Int} {up : Bool} (hx : x < a) (hu : u < a) (h : ¬ (u = x ∧ v = y)) : frontF a (bs.set (y * a + x) up) p q u v = frontF a bs p q u v := by
  unfold frontF
  have : (bs.set (y * a + x) up).getD (v * a + u) false = bs.getD (v * a + u) false := by
    rw [List.getD_eq_getElem?_getD, List.getD_eq_getElem?_getD, List.getElem?_set_ne]
    intro e
    obtain ⟨e1, e2⟩ := Pl.cell_inj hx hu e
    exact h ⟨e1.symm, e2.symm⟩
  rw [this]
theorem set_near {a x y : Nat} {bs : List Bool} {p q : List Int} (hl : y * a + x < bs.length) :
    decide (frontF a bs p q x y = frontF a (bs.set (y * a + x) (!bs.getD (y * a + x) false)) p q x y) = decide (q.getD y 0 = p.getD x 0) := by
  unfold frontF
  have : (bs.set (y * a + x) (!bs.getD (y * a + x) false)).getD (y * a + x) false = !bs.getD (y * a + x) false := by
    rw [List.getD_eq_getElem?_getD, List.getElem?_set_self hl]; rfl
  rw [this]
  cases bs.getD (y * a + x) false
  · simp
  · simp [eq_comm]

/-! The turned cloth, its sides exchanged, shows the turned image. -/
theorem turns_law {g : Gd} {p q : List Int} (h : thr g p q = 0) :
    turnG g = ((turnG g).1, 0) ∧ notG (turnG g).1 = ((notG (turnG g).1).1, 0) ∧ frontI (notG (turnG g).1).1 q p = ((turnI (frontI g p q).1).1, 0) ∧ frontI g p q = ((frontI g p q).1, 0) ∧ turnI (frontI g p q).1 = ((turnI (frontI g p q).1).1, 0) := by
  obtain ⟨a, b, bs, rfl, ha1, ha, hb1, hb, hl, hp, hq, fp, fq⟩ := thr_open h
  have e1 : turnG ⟨a, b, bs⟩ = (⟨b, a, Pl.tab b a fun x y => bs.getD (x * a + y) false⟩, 0) := withChk_ok (chkG_mk ha1 ha hb1 hb hl)
  have e2 : notG ⟨b, a, Pl.tab b a fun x y => bs.getD (x * a + y) false⟩ = (⟨b, a, Pl.tab b a fun x y => !bs.getD (x * a + y) false⟩, 0) := by
    rw [notG_ok (chkG_mk hb1 hb ha1 ha Pl.tab_length)]
    simp only [Pl.tab_map]
  have e3 := frontI_mk h
  have e4 : turnI ⟨a, b, Pl.tab a b (frontF a bs p q)⟩ = (⟨b, a, Pl.tab b a fun x y => frontF a bs p q y x⟩, 0) := by
    unfold turnI
    rw [withI_ok (chkI_tab ha1 ha hb1 hb fun x y hx hy => frontF_fine fp fq hp hq hx hy)]
    unfold tabI
    rw [Pl.tab_congr]
    intro x y hx hy
    exact tab_getD _ _ hy hx
  have e5 : frontI ⟨b, a, Pl.tab b a fun x y => !bs.getD (x * a + y) false⟩ q p = (⟨b, a, Pl.tab b a fun x y => frontF a bs p q y x⟩, 0) := by
    rw [frontI_mk (thr_mk hb1 hb ha1 ha Pl.tab_length hq hp fq fp), Pl.tab_congr]
    intro x y hx hy
    show (if (Pl.tab b a fun x y => !bs.getD (x * a + y) false).getD (y * b + x) false then _ else _) = _
    rw [tab_getD _ _ hx hy]
    unfold frontF
    cases bs.getD (x * a + y) false <;> simp
  rw [e1, e3]
  simp only
  rw [e2, e4]
  simp only
  rw [e5]
  simp
end Go.Proofs.Ytmajmbfbnchbfaa
