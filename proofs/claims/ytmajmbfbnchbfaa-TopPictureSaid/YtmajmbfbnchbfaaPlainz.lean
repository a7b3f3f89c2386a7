/- Plain lemmas on tables: lists of w * h cells, row by row. No program in sight. -/
namespace Go.Proofs.Ytmajmbfbnchbfaa
namespace Pl

/-- A table: h rows of w cells, row by row. -/
def tab {α : Type} (w h : Nat) (f : Nat → Nat → α) : List α :=
  (List.range h).flatMap fun y => (List.range w).map fun x => f x y

section
variable {α : Type} {w h : Nat} {f g : Nat → Nat → α}

theorem tab_zero : tab w 0 f = [] := rfl
theorem tab_succ : tab w (h + 1) f = tab w h f ++ (List.range w).map fun x => f x h := by
  simp [tab, List.range_succ, List.flatMap_append]
theorem tab_length : (tab w h f).length = h * w := by
  induction h with
  | zero => simp [tab_zero]
  | succ h ih => rw [tab_succ, List.length_append, ih]; simp [Nat.succ_mul]
theorem cell_lt {x y : Nat} (hx : x < w) (hy : y < h) : y * w + x < h * w := by
  have : (y + 1) * w ≤ h * w := Nat.mul_le_mul_right w hy
  rw [Nat.succ_mul] at this
  omega
theorem tab_get {x y : Nat} (hx : x < w) (hy : y < h) : (tab w h f)[y * w + x]? = some (f x y) := by
  induction h with
  | zero => omega
  | succ h ih =>
    rw [tab_succ]
    by_cases hyh : y < h
    · rw [List.getElem?_append_left (by rw [tab_length]; exact cell_lt hx hyh)]
      exact ih hyh
    · obtain rfl : y = h := by omega
      rw [List.getElem?_append_right (by rw [tab_length]; omega), tab_length]
      simp [hx]
theorem cell_split {i : Nat} (hi : i < h * w) : ∃ x y, x < w ∧ y < h ∧ i = y * w + x := by
  have hw : 0 < w := by
    rcases Nat.eq_zero_or_pos w with h0 | h0
    · subst h0; simp at hi
    · exact h0
  refine ⟨i % w, i / w, Nat.mod_lt _ hw, Nat.div_lt_of_lt_mul (by rw [Nat.mul_comm]; exact hi), ?_⟩
  rw [Nat.mul_comm]; exact (Nat.div_add_mod i w).symm
theorem cell_inj {x y x' y' : Nat} (hx : x < w) (hx' : x' < w) (e : y * w + x = y' * w + x') : x = x' ∧ y = y' := by
  have hw : 0 < w := by omega
  have h1 : (y * w + x) % w = (y' * w + x') % w := by rw [e]
  rw [Nat.mul_add_mod_self_right, Nat.mul_add_mod_self_right, Nat.mod_eq_of_lt hx, Nat.mod_eq_of_lt hx'] at h1
  subst h1
  have h2 : y * w = y' * w := by omega
  exact ⟨rfl, Nat.eq_of_mul_eq_mul_right hw h2⟩
theorem tab_ext {l : List α} (hl : l.length = h * w) (hc : ∀ x y, x < w → y < h → l[y * w + x]? = some (f x y)) : l = tab w h f := by
  apply List.ext_getElem?
  intro i
  by_cases hi : i < h * w
  · obtain ⟨x, y, hx, hy, rfl⟩ := cell_split hi
    rw [hc x y hx hy, tab_get hx hy]
  · rw [List.getElem?_eq_none (by omega), List.getElem?_eq_none (by rw [tab_length]; omega)]
theorem tab_congr (hfg : ∀ x y, x < w → y < h → f x y = g x y) : tab w h f = tab w h g :=
  tab_ext tab_length fun x y hx hy => by rw [tab_get hx hy, hfg x y hx hy]
theorem tab_map {β : Type} (p : α → β) : (tab w h f).map p = tab w h fun x y => p (f x y) :=
  tab_ext (by rw [List.length_map, tab_length]) fun x y hx hy => by rw [List.getElem?_map, tab_get hx hy]; rfl
/-- The list of a table by its own cells. -/
theorem tab_self {l : List α} {d : α} (hl : l.length = h * w) : l = tab w h fun x y => l.getD (y * w + x) d :=
  tab_ext hl fun x y hx hy => by
    have := cell_lt hx hy
    rw [List.getD_eq_getElem?_getD, List.getElem?_eq_getElem (by omega)]; rfl
/-- What is made of each cell of a list, as a table. -/
theorem map_tab {β : Type} {l : List α} (d : α) (hl : l.length = h * w) (p : α → β) : l.map p = tab w h fun x y => p (l.getD (y * w + x) d) := by
  conv => lhs; rw [tab_self (d := d) hl, tab_map]
theorem zip_tab {β γ : Type} {l : List α} {m : List β} (d : α) (k : β) (hl : l.length = h * w) (hm : m.length = h * w) (p : α → β → γ) :
    List.zipWith p l m = tab w h fun x y => p (l.getD (y * w + x) d) (m.getD (y * w + x) k) :=
  tab_ext (by simp [hl, hm]) fun x y hx hy => by
    have := cell_lt hx hy
    rw [List.getElem?_zipWith, List.getElem?_eq_getElem (by omega), List.getElem?_eq_getElem (by omega), List.getD_eq_getElem?_getD, List.getD_eq_getElem?_getD, List.getElem?_eq_getElem (by omega), List.getElem?_eq_getElem (by omega)]; rfl
end

/-! A list that is written over, place by place, by another one. -/
def mix {α : Type} (m l : List α) (i : Nat) : List α := m.take i ++ l.drop i
section
variable {α : Type} {m l : List α} {i : Nat}
theorem mix_zero : mix m l 0 = l := by simp [mix]
theorem mix_len (h : m.length = l.length) (hi : i ≤ l.length) : (mix m l i).length = l.length := by simp [mix]; omega
theorem mix_end (h : m.length = l.length) : mix m l l.length = m := by simp [mix, ← h]
theorem mix_get (h : m.length = l.length) (hi : i < l.length) : (mix m l i)[i]? = l[i]? := by
  unfold mix
  rw [List.getElem?_append_right (by simp; omega)]
  simp [show m.length ≥ i by omega]
theorem mix_set (h : m.length = l.length) (hi : i < l.length) {u : α} (hu : m[i]? = some u) : (mix m l i).set i u = mix m l (i + 1) := by
  have hm : i < m.length := by omega
  apply List.ext_getElem?
  intro j
  rw [List.getElem?_set, mix_len h (by omega)]
  by_cases hj : i = j
  · subst hj
    rw [if_pos rfl, if_pos hi, ← hu]
    unfold mix
    rw [List.getElem?_append_left (by simp; omega), List.getElem?_take, if_pos (by omega)]
  · rw [if_neg hj]
    unfold mix
    by_cases hlt : j < i
    · rw [List.getElem?_append_left (by simp; omega), List.getElem?_append_left (by simp; omega), List.getElem?_take, List.getElem?_take, if_pos (by omega), if_pos (by omega)]
    · rw [List.getElem?_append_right (by simp; omega), List.getElem?_append_right (by simp; omega)]
      simp
      congr 1
      omega
end

/-! Go's remainder, made positive in two ways. -/
theorem tmod_pos (a n : Int) (hn : 0 < n) : (if a.tmod n < 0 then a.tmod n + n else a.tmod n) = a % n := by
  have h1 := Int.tmod_eq_emod (a := a) (b := n)
  have h2 := Int.emod_nonneg a (show n ≠ 0 by omega)
  have h3 := Int.emod_lt_of_pos a hn
  rw [h1]
  by_cases h : 0 ≤ a ∨ n ∣ a
  · rw [if_pos h]; simp; omega
  · rw [if_neg h]
    have : (n.natAbs : Int) = n := by omega
    rw [this]
    rw [if_pos (by omega)]; omega
theorem mod2 (a n : Int) (hn : 0 < n) : (a.tmod n + n).tmod n = a % n := by
  have h1 := Int.tmod_eq_emod (a := a) (b := n)
  have h2 := Int.emod_nonneg a (show n ≠ 0 by omega)
  have h3 := Int.emod_lt_of_pos a hn
  have h4 : 0 ≤ a.tmod n + n := by
    rw [h1]; split <;> omega
  rw [Int.tmod_eq_emod_of_nonneg h4, Int.add_emod_right]
  rw [h1]
  split
  · simp
  · have : (n.natAbs : Int) = n := by omega
    rw [this]
    rw [Int.sub_emod_right]; simp

end Pl
end Go.Proofs.Ytmajmbfbnchbfaa
