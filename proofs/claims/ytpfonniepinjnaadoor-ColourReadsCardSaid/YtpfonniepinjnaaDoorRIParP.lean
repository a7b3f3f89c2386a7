/- What the reference's Parse of images reads: it is what Parse reads. No program in sight. -/
import Derived.Test.YtpfonniepinjnaaDoorIParP
namespace Go.Proofs.YtpfonniepinjnaaDoor
open Go.RowKit

theorem nl_len {W : Nat} : ∀ {R : List (List UInt8)}, (∀ l ∈ R, l.length = W) → (nl R).length = R.length * (W + 1)
  | [], _ => by simp [nl]
  | l :: R, h => by
    have ih := nl_len (R := R) fun k hk => h k (List.mem_cons_of_mem _ hk)
    show (l ++ [10] ++ nl R).length = _
    rw [List.length_append, ih, List.length_append, h l List.mem_cons_self, List.length_singleton, List.length_cons, Nat.succ_mul, Nat.add_comm]
theorem nl_get {W : Nat} : ∀ {R : List (List UInt8)} {r x : Nat}, (∀ l ∈ R, l.length = W) → r < R.length → x ≤ W → (nl R)[r * (W + 1) + x]? = if x = W then some 10 else (R.getD r [])[x]?
  | [], r, _, _, hr, _ => by simp at hr
  | l :: R, r, x, h, hr, hx => by
    have hl := h l List.mem_cons_self
    show (l ++ [10] ++ nl R)[_]? = _
    rcases r with _ | r
    · rw [Nat.zero_mul, Nat.zero_add, List.getElem?_append_left (by rw [List.length_append, hl, List.length_singleton]; omega)]
      by_cases hxe : x = W
      · rw [if_pos hxe, List.getElem?_append_right (by omega), hl, hxe, Nat.sub_self]; rfl
      · rw [if_neg hxe, List.getElem?_append_left (by omega)]; rfl
    · have e : (r + 1) * (W + 1) + x = (l ++ [10]).length + (r * (W + 1) + x) := by rw [List.length_append, hl, List.length_singleton, Nat.succ_mul]; omega
      rw [e, List.getElem?_append_right (by omega), Nat.add_sub_cancel_left, nl_get (fun k hk => h k (List.mem_cons_of_mem _ hk)) (by simpa using hr) hx]
      rfl

/-- The first line feed, or the text's end. -/
def First (s : List UInt8) (t : Nat) : Prop := (∀ j, j < t → s[j]? ≠ some 10) ∧ (t < s.length → s[t]? = some 10) ∧ t ≤ s.length
def Shape (s : List UInt8) (t : Nat) : Prop := 1 ≤ t ∧ t ≤ 64 ∧ s.length % (t + 1) = 0 ∧ s.length / (t + 1) ≤ 64
def GoodC (s : List UInt8) (t i : Nat) : Prop := ∃ u, s[i]? = some u ∧ (i % (t + 1) = t → u.toNat = 10) ∧ (i % (t + 1) ≠ t → 97 ≤ u.toNat ∧ u.toNat ≤ 112)
theorem split_at {t h i L : Nat} (hi : i < L) (hL : L = h * (t + 1)) : i / (t + 1) < h ∧ i = i / (t + 1) * (t + 1) + i % (t + 1) ∧ i % (t + 1) ≤ t := by
  have h1 := Nat.div_add_mod i (t + 1)
  have h2 := Nat.mod_lt i (show 0 < t + 1 by omega)
  refine ⟨(Nat.div_lt_iff_lt_mul (by omega)).2 (by omega), ?_, by omega⟩
  rw [Nat.mul_comm] at h1
  omega
theorem parseI_yes {s : List UInt8} {g : Im} (h : parseI s = (g, 0)) : ∃ R : List (List UInt8), s = nl R ∧ (∀ l ∈ R, l.length = (R.headD []).length) ∧ chkI ⟨(R.headD []).length, R.length, cellsC R⟩ = 0 := by
  unfold parseI at h
  by_cases h1 : Lib.hasSuffix s [10] = true ∧ (spl (Lib.trimSuffix s [10])).length ≤ 64
  · rw [if_pos h1] at h
    unfold imgL at h
    split at h
    · rename_i h2
      exact ⟨_, by rw [nl_spl, ← suffix_text h1.1], h2.1, h2.2⟩
    · injection h with _ h3
      exact absurd h3 (by decide)
  · rw [if_neg h1] at h
    injection h with _ h3
    exact absurd h3 (by decide)
theorem parseI_err (s : List UInt8) : (∃ g, parseI s = (g, 0)) ∨ parseI s = (Im.zero, 12) := by
  unfold parseI
  split
  · unfold imgL
    split
    · exact .inl ⟨_, rfl⟩
    · exact .inr rfl
  · exact .inr rfl
theorem cells_fine {R : List (List UInt8)} (h : fineL (cellsC R) = true) {l : List UInt8} (hl : l ∈ R) {u : UInt8} (hu : u ∈ l) : 97 ≤ u.toNat ∧ u.toNat ≤ 112 := by
  unfold fineL at h
  have := List.all_eq_true.1 h ((u.toNat : Int) - 97) (by
    unfold cellsC
    rw [List.mem_flatMap]
    exact ⟨l, List.mem_reverse.2 hl, by unfold colsC; exact List.mem_map.2 ⟨u, hu, rfl⟩⟩)
  simp only [decide_eq_true_eq] at this
  omega
theorem chkI_sides {W H : Nat} {l : List Int} (h : chkI ⟨W, H, l⟩ = 0) : 1 ≤ W ∧ W ≤ 64 ∧ 1 ≤ H ∧ H ≤ 64 ∧ l.length = W * H ∧ fineL l = true := by
  unfold chkI at h
  split at h
  · exact absurd h (by decide)
  · rename_i hn
    simp only [not_or, Int.not_lt, Decidable.not_not, Bool.not_eq_false] at hn
    obtain ⟨h1, h2, h3, h4, h5, h6⟩ := hn
    refine ⟨by omega, by omega, by omega, by omega, ?_, h6⟩
    rw [← Int.natCast_mul] at h5
    exact Int.ofNat.inj h5
theorem ref_good {s : List UInt8} {g : Im} {t : Nat} (h : parseI s = (g, 0)) (hf : First s t) : Shape s t ∧ ∀ i, i < s.length → GoodC s t i := by
  obtain ⟨R, hs, hW, hc⟩ := parseI_yes h
  obtain ⟨W, hWd⟩ : ∃ W, (R.headD []).length = W := ⟨_, rfl⟩
  rw [hWd] at hW hc
  obtain ⟨w1, w2, h1, h2, hl, hfn⟩ := chkI_sides hc
  have hlen : s.length = R.length * (W + 1) := by rw [hs]; exact nl_len hW
  have hget : ∀ r x, r < R.length → x ≤ W → s[r * (W + 1) + x]? = if x = W then some 10 else (R.getD r [])[x]? := fun r x hr hx => by rw [hs]; exact nl_get hW hr hx
  have hbyte : ∀ r x, r < R.length → x < W → ∃ u, (R.getD r [])[x]? = some u ∧ 97 ≤ u.toNat ∧ u.toNat ≤ 112 := fun r x hr hx => by
    have hm : R.getD r [] ∈ R := by rw [List.getD_eq_getElem?_getD, List.getElem?_eq_getElem hr]; exact List.getElem_mem hr
    have hxl : x < (R.getD r []).length := by rw [hW _ hm]; exact hx
    exact ⟨_, List.getElem?_eq_getElem hxl, cells_fine hfn hm (List.getElem_mem hxl)⟩
  have hfeed := hget 0 W (by omega) (Nat.le_refl _)
  rw [Nat.zero_mul, Nat.zero_add, if_pos rfl] at hfeed
  have hab : W < s.length := by
    rw [hlen]
    have := Nat.mul_le_mul_right (W + 1) h1
    omega
  have hta : t = W := by
    rcases Nat.lt_trichotomy t W with hlt | he | hgt
    · have k1 := hf.2.1 (by omega)
      have k2 := hget 0 t (by omega) (by omega)
      obtain ⟨u, hu, hu1, _⟩ := hbyte 0 t (by omega) hlt
      rw [Nat.zero_mul, Nat.zero_add, if_neg (by omega), k1, hu] at k2
      injection k2 with k2
      subst k2
      exact absurd hu1 (by decide)
    · exact he
    · exact absurd hfeed (hf.1 W hgt)
  subst hta
  refine ⟨⟨w1, w2, by rw [hlen]; exact Nat.mul_mod_left _ _, by rw [hlen, Nat.mul_div_left _ (by omega)]; exact h2⟩, fun i hi => ?_⟩
  obtain ⟨k1, k2, k3⟩ := split_at hi hlen
  have k4 := hget _ _ k1 k3
  rw [← k2] at k4
  by_cases hx : i % (t + 1) = t
  · rw [if_pos hx] at k4
    exact ⟨10, k4, fun _ => rfl, fun h => absurd hx h⟩
  · obtain ⟨u, hu, hu1⟩ := hbyte (i / (t + 1)) (i % (t + 1)) k1 (by omega)
    rw [if_neg hx, hu] at k4
    exact ⟨u, k4, fun h => absurd h hx, fun _ => hu1⟩
theorem ref_bad {s : List UInt8} {t : Nat} (hf : First s t) (hn : ¬ (Shape s t ∧ ∀ i, i < s.length → GoodC s t i)) : parseI s = (Im.zero, 12) := by
  rcases parseI_err s with ⟨g, h⟩ | h
  · exact absurd (ref_good h hf) hn
  · exact h

/-- Row y of the text, as far as x. -/
def rowC (s : List UInt8) (t y x : Nat) : List Int := (List.range x).map fun k => ((s.getD (y * (t + 1) + k) 0).toNat : Int) - 97
theorem rowC_len (s : List UInt8) (t y x : Nat) : (rowC s t y x).length = x := by simp [rowC]
theorem rowC_succ (s : List UInt8) (t y x : Nat) : rowC s t y (x + 1) = rowC s t y x ++ [((s.getD (y * (t + 1) + x) 0).toNat : Int) - 97] := by simp [rowC, List.range_succ]
/-- The first j rows from the last one on. -/
def doneC (s : List UInt8) (t h j : Nat) : List Int := (List.range j).flatMap fun k => rowC s t (h - 1 - k) t
theorem doneC_succ (s : List UInt8) (t h j : Nat) : doneC s t h (j + 1) = doneC s t h j ++ rowC s t (h - 1 - j) t := by simp [doneC, List.range_succ]
theorem doneC_len (s : List UInt8) (t h : Nat) : ∀ j, (doneC s t h j).length = j * t
  | 0 => by simp [doneC]
  | j + 1 => by rw [doneC_succ, List.length_append, doneC_len s t h j, rowC_len, Nat.succ_mul]
theorem flat_congr {α β : Type} {f g : α → List β} : ∀ l : List α, (∀ a ∈ l, f a = g a) → l.flatMap f = l.flatMap g
  | [], _ => rfl
  | a :: l, h => by rw [List.flatMap_cons, List.flatMap_cons, h a List.mem_cons_self, flat_congr l fun b hb => h b (List.mem_cons_of_mem _ hb)]
theorem rev_flat {f : Nat → List Int} : ∀ h, ((List.range h).reverse.flatMap f) = (List.range h).flatMap fun k => f (h - 1 - k)
  | 0 => rfl
  | h + 1 => by
    have e : ((List.range (h + 1)).flatMap fun k => f (h + 1 - 1 - k)) = f h ++ (List.range h).flatMap fun k => f (h - 1 - k) := by
      rw [List.range_succ_eq_map, List.flatMap_cons, List.flatMap_map]
      congr 1
      refine flat_congr _ fun k _ => ?_
      rw [show h + 1 - 1 - (k + 1) = h - 1 - k by omega]
    rw [e, List.range_succ, List.reverse_append, List.reverse_singleton, List.singleton_append, List.flatMap_cons, rev_flat h]
theorem ref_ok {s : List UInt8} {t : Nat} (hs : Shape s t) (hg : ∀ i, i < s.length → GoodC s t i) (h0 : s.length ≠ 0) : parseI s = (⟨t, (s.length / (t + 1) : Nat), doneC s t (s.length / (t + 1)) (s.length / (t + 1))⟩, 0) := by
  obtain ⟨ht1, ht, hm, hh⟩ := hs
  obtain ⟨h, hhd⟩ : ∃ h, s.length / (t + 1) = h := ⟨_, rfl⟩
  rw [hhd] at hh ⊢
  have hL : s.length = h * (t + 1) := by
    have := Nat.div_add_mod s.length (t + 1)
    rw [hhd, hm, Nat.mul_comm] at this
    omega
  have hh1 : 1 ≤ h := by
    rcases Nat.eq_zero_or_pos h with e | e
    · rw [e, Nat.zero_mul] at hL; omega
    · exact e
  obtain ⟨R, hR⟩ : ∃ R : List (List UInt8), R = (List.range h).map fun r => (List.range t).map fun x => s.getD (r * (t + 1) + x) 0 := ⟨_, rfl⟩
  have hRl : R.length = h := by rw [hR]; simp
  have hRW : ∀ l ∈ R, l.length = t := fun l hl => by
    rw [hR] at hl
    obtain ⟨r, _, rfl⟩ := List.mem_map.1 hl
    simp
  have hRg : ∀ r x, r < h → x < t → (R.getD r [])[x]? = some (s.getD (r * (t + 1) + x) 0) := fun r x hr hx => by
    rw [hR, List.getD_eq_getElem?_getD, List.getElem?_map, List.getElem?_range hr]
    simp [hx]
  have hgood : ∀ r x, r < h → x ≤ t → ∃ u, s[r * (t + 1) + x]? = some u ∧ s.getD (r * (t + 1) + x) 0 = u ∧ (x = t → u.toNat = 10) ∧ (x < t → 97 ≤ u.toNat ∧ u.toNat ≤ 112) := fun r x hr hx => by
    have hi : r * (t + 1) + x < s.length := by
      rw [hL]
      have := Nat.mul_le_mul_right (t + 1) (show r + 1 ≤ h by omega)
      rw [Nat.succ_mul] at this
      omega
    have hmod : (r * (t + 1) + x) % (t + 1) = x := by rw [Nat.mul_comm, Nat.mul_add_mod]; exact Nat.mod_eq_of_lt (by omega)
    obtain ⟨u, hu, hu1, hu2⟩ := hg _ hi
    rw [hmod] at hu1 hu2
    exact ⟨u, hu, by rw [List.getD_eq_getElem?_getD, hu]; rfl, hu1, fun h => hu2 (by omega)⟩
  have hsn : s = nl R := by
    refine List.ext_getElem? fun i => ?_
    by_cases hi : i < s.length
    · obtain ⟨k1, k2, k3⟩ := split_at hi hL
      have k4 := nl_get (R := R) hRW (by rw [hRl]; exact k1) k3
      obtain ⟨u, hu, hug, hu1, hu2⟩ := hgood _ _ k1 k3
      rw [← k2] at k4 hu hug
      rw [k4, hu]
      by_cases hx : i % (t + 1) = t
      · rw [if_pos hx]
        congr 1
        exact UInt8.toNat_inj.1 (hu1 hx)
      · rw [if_neg hx, hRg _ _ k1 (by omega), ← k2, hug]
    · rw [List.getElem?_eq_none (by omega), List.getElem?_eq_none (by rw [nl_len hRW, hRl]; omega)]
  have hne : R ≠ [] := fun e => by rw [e] at hRl; simp at hRl; omega
  have hsfx : ∃ b, s = b ++ [10] := by
    obtain ⟨R0, l, hRe⟩ : ∃ R0 l, R = R0 ++ [l] := ⟨_, _, (List.dropLast_concat_getLast hne).symm⟩
    exact ⟨nl R0 ++ l, by rw [hsn, hRe, nl_append, List.append_assoc]; simp [nl]⟩
  obtain ⟨b, hb⟩ := hsfx
  have h1 : Lib.hasSuffix s [10] = true := by
    unfold Lib.hasSuffix
    exact List.isSuffixOf_iff_suffix.2 ⟨b, hb.symm⟩
  have h2 : Lib.trimSuffix s [10] = b := by
    have := suffix_text h1
    rw [hb] at this
    rw [hb]
    exact (List.append_cancel_right this).symm
  have hspl : spl (Lib.trimSuffix s [10]) = R := by
    rw [h2]
    refine spl_nl hne (fun l hl h10 => ?_) (by rw [← hsn, hb])
    rw [hR] at hl
    obtain ⟨r, hr, rfl⟩ := List.mem_map.1 hl
    obtain ⟨x, hx, e⟩ := List.mem_map.1 h10
    obtain ⟨u, _, hug, _, hu2⟩ := hgood r x (List.mem_range.1 hr) (Nat.le_of_lt (List.mem_range.1 hx))
    rw [hug] at e
    have := hu2 (List.mem_range.1 hx)
    rw [e] at this
    exact absurd this.1 (by decide)
  have hhd2 : (R.headD []).length = t := by
    cases hRc : R with
    | nil => exact absurd hRc hne
    | cons a r => exact hRW a (by rw [hRc]; exact List.mem_cons_self)
  have hcells : cellsC R = doneC s t h h := by
    unfold cellsC doneC
    rw [hR, ← List.map_reverse, List.flatMap_map, rev_flat]
    refine flat_congr _ fun k _ => ?_
    unfold colsC rowC
    rw [List.map_map]
    rfl
  rw [parseI_lines h1 (by rw [hspl, hRl]; exact hh), hspl, imgL_ok (by rw [hhd2]; exact hRW), hhd2, hRl, hcells]
  rw [hhd2, hRl, hcells]
  refine chkI_ok (a := t) (b := h) rfl rfl ht1 ht hh1 hh (doneC_len s t h h) ?_
  unfold fineL
  rw [List.all_eq_true]
  intro z hz
  unfold doneC at hz
  obtain ⟨k, hk, hz⟩ := List.mem_flatMap.1 hz
  obtain ⟨x, hx, rfl⟩ := List.mem_map.1 hz
  have hk2 := List.mem_range.1 hk
  obtain ⟨u, _, hug, _, hu2⟩ := hgood (h - 1 - k) x (by omega) (Nat.le_of_lt (List.mem_range.1 hx))
  have := hu2 (List.mem_range.1 hx)
  rw [hug]
  exact decide_eq_true (by omega)
end Go.Proofs.YtpfonniepinjnaaDoor
