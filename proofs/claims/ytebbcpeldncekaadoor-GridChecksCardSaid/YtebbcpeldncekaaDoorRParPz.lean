/- What the reference's Parse reads: it is what Parse reads. No program in sight. -/
import Derived.Test.YtebbcpeldncekaaDoorBackPz
import Derived.Test.YtebbcpeldncekaaDoorPlainz
namespace Go.Proofs.YtebbcpeldncekaaDoor

theorem downT_get {a : Nat} {F : Nat → List UInt8} : ∀ {b : Nat}, (∀ j, j < b → (F j).length = a) → ∀ {r x : Nat}, r < b → x < a → (downT F b)[r * a + x]? = (F (b - 1 - r))[x]?
  | 0, _, r, x, hr, _ => absurd hr (by omega)
  | b + 1, h, r, x, hr, hx => by
    have hb := h b (by omega)
    rw [downT]
    rcases r with _ | r
    · rw [Nat.zero_mul, Nat.zero_add, List.getElem?_append_left (by omega)]
      rfl
    · have e : (r + 1) * a + x = (F b).length + (r * a + x) := by rw [hb, Nat.succ_mul]; omega
      rw [e, List.getElem?_append_right (by omega), Nat.add_sub_cancel_left, downT_get (fun j hj => h j (by omega)) (by omega) hx]
      rw [show b + 1 - 1 - (r + 1) = b - 1 - r by omega]
theorem textL_get {a b r x : Nat} {bs : List Bool} (hl : bs.length = b * a) (hr : r < b) (hx : x ≤ a) : (textL a b bs)[r * (a + 1) + x]? = some (if x = a then 10 else ch (bs.getD ((b - 1 - r) * a + x) false)) := by
  have hrow := rowAt_length (y := b - 1 - r) hl (by omega)
  unfold textL
  rw [downT_get (a := a + 1) (fun j hj => by rw [rowT_length, rowAt_length hl hj]) hr (by omega)]
  unfold rowT
  by_cases h : x = a
  · subst h
    rw [if_pos rfl, List.getElem?_append_right (by rw [List.length_map]; omega), List.length_map, hrow, Nat.sub_self]
    rfl
  · rw [if_neg h, List.getElem?_append_left (by rw [List.length_map]; omega), List.getElem?_map]
    have e : (rowAt a bs (b - 1 - r))[x]? = some (bs.getD ((b - 1 - r) * a + x) false) := by
      have hc := Pl.cell_lt (w := a) (h := b) (show x < a by omega) (show b - 1 - r < b by omega)
      unfold rowAt
      rw [List.getElem?_take, if_pos (by omega), List.getElem?_drop, List.getD_eq_getElem?_getD, List.getElem?_eq_getElem (by omega)]
      rfl
    rw [e]
    rfl
theorem down_lt {h r : Nat} (hr : r < h) : h - 1 - r < h := by omega
theorem down_down {h r : Nat} (hr : r < h) : h - 1 - (h - 1 - r) = r := by omega
theorem ch_ne10 (b : Bool) : ch b ≠ 10 := by cases b <;> decide

/-- The first line feed, or the text's end. -/
def First (s : List UInt8) (t : Nat) : Prop := (∀ j, j < t → s[j]? ≠ some 10) ∧ (t < s.length → s[t]? = some 10) ∧ t ≤ s.length
def Shape (s : List UInt8) (t : Nat) : Prop := 1 ≤ t ∧ t ≤ 64 ∧ s.length % (t + 1) = 0 ∧ s.length / (t + 1) ≤ 64
def GoodAt (s : List UInt8) (t i : Nat) : Prop := ∃ u, s[i]? = some u ∧ (u = 10 ↔ i % (t + 1) = t) ∧ (u = 10 ∨ u = 120 ∨ u = 46)
theorem split_at {t h i L : Nat} (hi : i < L) (hL : L = h * (t + 1)) : i / (t + 1) < h ∧ i = i / (t + 1) * (t + 1) + i % (t + 1) ∧ i % (t + 1) ≤ t := by
  have h1 := Nat.div_add_mod i (t + 1)
  have h2 := Nat.mod_lt i (show 0 < t + 1 by omega)
  refine ⟨(Nat.div_lt_iff_lt_mul (by omega)).2 (by omega), ?_, by omega⟩
  rw [Nat.mul_comm] at h1
  omega
theorem ref_good {s : List UInt8} {g : Gd} {t : Nat} (h : parseG s = (g, 0)) (hf : First s t) : Shape s t ∧ ∀ i, i < s.length → GoodAt s t i := by
  obtain ⟨hc, ht⟩ := text_parse h
  obtain ⟨W, H, bs⟩ := g
  obtain ⟨a, b, e1, e2, ha1, ha, hb1, hb, hl⟩ := chk_zero (show chk W H bs.length = 0 from hc)
  subst e1 e2
  rw [textG_ok hc] at ht
  injection ht with hs _
  have hlen : s.length = b * (a + 1) := by rw [← hs]; exact textL_length hl
  have hget : ∀ r x, r < b → x ≤ a → s[r * (a + 1) + x]? = some (if x = a then 10 else ch (bs.getD ((b - 1 - r) * a + x) false)) := fun r x hr hx => by
    rw [← hs]; exact textL_get hl hr hx
  have hfeed := hget 0 a (by omega) (Nat.le_refl _)
  rw [Nat.zero_mul, Nat.zero_add, if_pos rfl] at hfeed
  have hab : a < s.length := by
    rw [hlen]
    have := Nat.mul_le_mul_right (a + 1) hb1
    omega
  have hta : t = a := by
    rcases Nat.lt_trichotomy t a with hlt | he | hgt
    · have h1 := hf.2.1 (by omega)
      have h2 := hget 0 t (by omega) (by omega)
      rw [Nat.zero_mul, Nat.zero_add, if_neg (by omega), h1] at h2
      injection h2 with h2
      exact absurd h2.symm (ch_ne10 _)
    · exact he
    · exact absurd hfeed (hf.1 a hgt)
  subst hta
  refine ⟨⟨ha1, ha, by rw [hlen]; exact Nat.mul_mod_left _ _, by rw [hlen, Nat.mul_div_left _ (by omega)]; exact hb⟩, fun i hi => ?_⟩
  obtain ⟨h1, h2, h3⟩ := split_at hi hlen
  have h4 := hget _ _ h1 h3
  rw [← h2] at h4
  refine ⟨_, h4, ?_, ?_⟩
  · by_cases hx : i % (t + 1) = t
    · rw [if_pos hx]; simp [hx]
    · rw [if_neg hx]
      exact ⟨fun h => absurd h (ch_ne10 _), fun h => absurd h hx⟩
  · by_cases hx : i % (t + 1) = t
    · rw [if_pos hx]; exact .inl rfl
    · rw [if_neg hx]
      cases bs.getD ((b - 1 - i / (t + 1)) * t + i % (t + 1)) false
      · exact .inr (.inr rfl)
      · exact .inr (.inl rfl)
theorem ref_bad {s : List UInt8} {t : Nat} (hf : First s t) (hn : ¬ (Shape s t ∧ ∀ i, i < s.length → GoodAt s t i)) : parseG s = (Gd.zero, 12) := by
  rcases parse_err s with h | h
  · exact absurd (ref_good (g := (parseG s).1) (by rw [← h]) hf) hn
  · exact h

/-- The cells that the text's first i bytes lift. -/
def fillB (s : List UInt8) (t h i : Nat) : List Bool := Pl.tab t h fun x y => decide ((h - 1 - y) * (t + 1) + x < i) && (s.getD ((h - 1 - y) * (t + 1) + x) 0 == 120)
theorem fillB_zero (s : List UInt8) (t h : Nat) : fillB s t h 0 = List.replicate (h * t) false := by
  symm
  refine Pl.tab_ext (by simp) fun x y hx hy => ?_
  have := Pl.cell_lt hx hy
  simp [this]
theorem fillB_len (s : List UInt8) (t h i : Nat) : (fillB s t h i).length = h * t := Pl.tab_length
theorem place_inj {t h x y i : Nat} (hx : x < t) (hy : y < h) (hi : i % (t + 1) < t) (hih : i / (t + 1) < h) (e : (h - 1 - y) * (t + 1) + x = i) : x = i % (t + 1) ∧ y = h - 1 - i / (t + 1) := by
  have e2 : i / (t + 1) * (t + 1) + i % (t + 1) = i := by have := Nat.div_add_mod i (t + 1); rw [Nat.mul_comm] at this; omega
  obtain ⟨h1, h2⟩ := Pl.cell_inj (w := t + 1) (x := x) (y := h - 1 - y) (x' := i % (t + 1)) (y' := i / (t + 1)) (by omega) (by omega) (by rw [e2]; exact e)
  refine ⟨h1, ?_⟩
  generalize i / (t + 1) = r at *
  omega
theorem fillB_set {s : List UInt8} {t h i : Nat} (hi : i % (t + 1) < t) (hih : i / (t + 1) < h) (hs : s.getD i 0 = 120) :
    (fillB s t h i).set ((h - 1 - i / (t + 1)) * t + i % (t + 1)) true = fillB s t h (i + 1) := by
  have e2 : i / (t + 1) * (t + 1) + i % (t + 1) = i := by have := Nat.div_add_mod i (t + 1); rw [Nat.mul_comm] at this; omega
  have hcl := Pl.cell_lt (w := t) (h := h) hi (down_lt hih)
  refine Pl.tab_ext (by rw [List.length_set, fillB_len]) fun x y hx hy => ?_
  rw [List.getElem?_set]
  by_cases e : (h - 1 - i / (t + 1)) * t + i % (t + 1) = y * t + x
  · obtain ⟨h1, h2⟩ := Pl.cell_inj hi hx e
    rw [if_pos e, if_pos (by rw [fillB_len]; omega)]
    have e3 : (h - 1 - y) * (t + 1) + x = i := by
      have e4 : h - 1 - y = i / (t + 1) := by
        generalize i / (t + 1) = r at *
        omega
      rw [e4, ← h1]; exact e2
    rw [e3, hs]
    simp
  · rw [if_neg e]
    unfold fillB
    rw [Pl.tab_get hx hy]
    have hne : (h - 1 - y) * (t + 1) + x ≠ i := fun e3 => by
      obtain ⟨h1, h2⟩ := place_inj hx hy hi hih e3
      exact e (by rw [h1, h2])
    congr 2
    exact decide_eq_decide.2 ⟨fun h => by omega, fun h => by omega⟩
theorem fillB_keep {s : List UInt8} {t h i : Nat} (hs : s.getD i 0 ≠ 120) : fillB s t h (i + 1) = fillB s t h i := by
  refine Pl.tab_congr fun x y hx hy => ?_
  by_cases e : (h - 1 - y) * (t + 1) + x = i
  · rw [e, show (s.getD i 0 == 120) = false by simpa using hs]; simp
  · congr 1
    exact decide_eq_decide.2 ⟨fun h => by omega, fun h => by omega⟩
theorem fillB_all {s : List UInt8} {t h : Nat} (hL : s.length = h * (t + 1)) : fillB s t h s.length = Pl.tab t h fun x y => (s.getD ((h - 1 - y) * (t + 1) + x) 0 == 120) := by
  refine Pl.tab_congr fun x y hx hy => ?_
  have := Pl.cell_lt (w := t + 1) (h := h) (show x < t + 1 by omega) (show h - 1 - y < h by omega)
  simp only [hL, this, decide_true, Bool.true_and]
theorem ref_ok {s : List UInt8} {t : Nat} (hs : Shape s t) (hg : ∀ i, i < s.length → GoodAt s t i) : parseG s = (⟨t, (s.length / (t + 1) : Nat), fillB s t (s.length / (t + 1)) s.length⟩, 0) ∨ s.length = 0 := by
  obtain ⟨ht1, ht, hm, hh⟩ := hs
  obtain ⟨h, hhd⟩ : ∃ h, s.length / (t + 1) = h := ⟨_, rfl⟩
  rw [hhd] at hh ⊢
  have hL : s.length = h * (t + 1) := by
    have := Nat.div_add_mod s.length (t + 1)
    rw [hhd, hm, Nat.mul_comm] at this
    omega
  by_cases h0 : s.length = 0
  · exact .inr h0
  have hh1 : 1 ≤ h := by
    rcases Nat.eq_zero_or_pos h with e | e
    · rw [e, Nat.zero_mul] at hL; omega
    · exact e
  left
  rw [fillB_all hL]
  have hbl : (Pl.tab t h fun x y => (s.getD ((h - 1 - y) * (t + 1) + x) 0 == 120)).length = h * t := Pl.tab_length
  have hck : chkG ⟨(t : Int), (h : Int), Pl.tab t h fun x y => (s.getD ((h - 1 - y) * (t + 1) + x) 0 == 120)⟩ = 0 := by
    show chk (t : Int) (h : Int) (Pl.tab t h fun x y => (s.getD ((h - 1 - y) * (t + 1) + x) 0 == 120)).length = 0
    exact chk_ok (by omega) (by omega) (by omega) (by omega) (by rw [hbl, Int.natCast_mul, Int.mul_comm])
  have e : textL t h (Pl.tab t h fun x y => (s.getD ((h - 1 - y) * (t + 1) + x) 0 == 120)) = s := by
    refine List.ext_getElem? fun i => ?_
    by_cases hi : i < s.length
    · obtain ⟨h1, h2, h3⟩ := split_at hi hL
      have h4 := textL_get (a := t) (b := h) hbl h1 h3
      rw [← h2] at h4
      rw [h4]
      obtain ⟨u, hu, hu1, hu2⟩ := hg i hi
      rw [hu]
      congr 1
      by_cases hx : i % (t + 1) = t
      · rw [if_pos hx]; exact (hu1.2 hx).symm
      · have hr1 : h - 1 - i / (t + 1) < h := down_lt h1
        have hr2 : h - 1 - (h - 1 - i / (t + 1)) = i / (t + 1) := down_down h1
        have hx2 : i % (t + 1) < t := by omega
        rw [if_neg hx, List.getD_eq_getElem?_getD, Pl.tab_get hx2 hr1, Option.getD_some, hr2, ← h2, List.getD_eq_getElem?_getD, hu, Option.getD_some]
        have hu3 : u ≠ 10 := fun h => hx (hu1.1 h)
        rcases hu2 with h | h | h
        · exact absurd h hu3
        · subst h; rfl
        · subst h; rfl
    · rw [List.getElem?_eq_none (by rw [textL_length hbl]; omega), List.getElem?_eq_none (by omega)]
  have := parse_text hck
  rw [e] at this
  exact this
end Go.Proofs.YtebbcpeldncekaaDoor
