/- Texts and images are inverse; counts by turning; sums of counts. No program in sight. -/
import Derived.Test.YtpfonniepinjnaaDoorIParP
import Derived.Test.YtpfonniepinjnaaDoorCntP
namespace Go.Proofs.YtpfonniepinjnaaDoor
open Go.RowKit

theorem suffix_nl {R : List (List UInt8)} (hne : R ≠ []) : ∃ b, nl R = b ++ [10] := by
  obtain ⟨R0, l, hRe⟩ : ∃ R0 l, R = R0 ++ [l] := ⟨_, _, (List.dropLast_concat_getLast hne).symm⟩
  exact ⟨nl R0 ++ l, by rw [hRe, nl_append, List.append_assoc]; simp [nl]⟩
theorem parseI_nl {R : List (List UInt8)} (hne : R ≠ []) (h10 : ∀ l ∈ R, 10 ∉ l) (h64 : R.length ≤ 64) : parseI (nl R) = imgL R := by
  obtain ⟨b, hb⟩ := suffix_nl hne
  have h1 : Lib.hasSuffix (nl R) [10] = true := by
    unfold Lib.hasSuffix
    exact List.isSuffixOf_iff_suffix.2 ⟨b, hb.symm⟩
  have h2 : Lib.trimSuffix (nl R) [10] = b := by
    have := suffix_text h1
    rw [hb] at this
    rw [hb]
    exact (List.append_cancel_right this).symm
  have hs : spl (Lib.trimSuffix (nl R) [10]) = R := by rw [h2]; exact spl_nl hne h10 hb
  rw [parseI_lines h1 (by rw [hs]; exact h64), hs]

/-- The lines from the top. -/
def linesU (F : Nat → List Int) : Nat → List (List UInt8)
  | 0 => []
  | k + 1 => (F k).map chI :: linesU F k
theorem linesU_length (F : Nat → List Int) : ∀ k, (linesU F k).length = k
  | 0 => rfl
  | k + 1 => by rw [linesU, List.length_cons, linesU_length F k]
theorem linesU_mem {F : Nat → List Int} {l : List UInt8} : ∀ {k}, l ∈ linesU F k → ∃ j, j < k ∧ l = (F j).map chI
  | 0, h => by simp [linesU] at h
  | k + 1, h => by
    rcases List.mem_cons.1 h with rfl | h
    · exact ⟨k, by omega, rfl⟩
    · obtain ⟨j, hj, e⟩ := linesU_mem h
      exact ⟨j, by omega, e⟩
theorem downU_nl (F : Nat → List Int) : ∀ k, downU (fun y => rowU (F y)) k = nl (linesU F k)
  | 0 => rfl
  | k + 1 => by
    show rowU (F k) ++ downU (fun y => rowU (F y)) k = ((F k).map chI ++ [10]) ++ nl (linesU F k)
    rw [downU_nl F k]
    rfl
theorem cols_chI {l : List Int} (h : ∀ c ∈ l, 0 ≤ c ∧ c ≤ 15) : colsC (l.map chI) = l := by
  induction l with
  | nil => rfl
  | cons c t ih =>
    have h1 := h c List.mem_cons_self
    show (((chI c).toNat : Int) - 97) :: colsC (t.map chI) = _
    rw [chI_nat h1.1 h1.2, ih fun x hx => h x (List.mem_cons_of_mem _ hx)]
    congr 1
    omega
theorem cells_lines {F : Nat → List Int} (h : ∀ j, ∀ c ∈ F j, 0 ≤ c ∧ c ≤ 15) : ∀ k, cellsC (linesU F k) = (List.range k).flatMap F
  | 0 => rfl
  | k + 1 => by
    have ih := cells_lines h k
    unfold cellsC at ih ⊢
    rw [linesU, List.reverse_cons, List.flatMap_append, ih, List.range_succ, List.flatMap_append]
    simp only [List.flatMap_cons, List.flatMap_nil, List.append_nil]
    rw [cols_chI (h k)]
theorem rows_take {a b : Nat} {cs : List Int} (hl : cs.length = b * a) : ∀ k, k ≤ b → (List.range k).flatMap (rowAtI a cs) = cs.take (k * a)
  | 0, _ => by simp
  | k + 1, h => by
    rw [List.range_succ, List.flatMap_append, rows_take hl k (by omega), Nat.succ_mul, List.take_add]
    simp [rowAtI]
theorem parse_textU {a b : Nat} {cs : List Int} (h : chkI ⟨a, b, cs⟩ = 0) : parseI (textU a b cs) = (⟨a, b, cs⟩, 0) := by
  obtain ⟨a', b', e1, e2, ha1, ha, hb1, hb, hl, hf⟩ := chkI_zero h
  have e1 : a = a' := Int.ofNat.inj e1
  have e2 : b = b' := Int.ofNat.inj e2
  subst e1 e2
  simp only at hl hf
  have hfc : ∀ c ∈ cs, 0 ≤ c ∧ c ≤ 15 := fun c hc => by
    unfold fineL at hf
    simpa using List.all_eq_true.1 hf c hc
  have hrow : ∀ j, ∀ c ∈ rowAtI a cs j, 0 ≤ c ∧ c ≤ 15 := fun j c hc => by
    unfold rowAtI at hc
    exact hfc c (List.mem_of_mem_drop (List.mem_of_mem_take hc))
  obtain ⟨R, hR⟩ : ∃ R, linesU (rowAtI a cs) b = R := ⟨_, rfl⟩
  have hRl : R.length = b := by rw [← hR]; exact linesU_length _ _
  have hRm : ∀ l ∈ R, l.length = a ∧ 10 ∉ l := fun l hl' => by
    rw [← hR] at hl'
    obtain ⟨j, hj, rfl⟩ := linesU_mem hl'
    refine ⟨by rw [List.length_map]; exact rowAtI_length hl hj, fun h10 => ?_⟩
    obtain ⟨c, hc, e⟩ := List.mem_map.1 h10
    have h1 := hrow j c hc
    have h2 := chI_nat h1.1 h1.2
    rw [e] at h2
    have : ((10 : UInt8).toNat : Int) = 10 := rfl
    omega
  have hne : R ≠ [] := fun e => by rw [e] at hRl; simp at hRl; omega
  have hhd : (R.headD []).length = a := by
    cases hRc : R with
    | nil => exact absurd hRc hne
    | cons x r => exact (hRm x (by rw [hRc]; exact List.mem_cons_self)).1
  have hcells : cellsC R = cs := by
    rw [← hR, cells_lines hrow, rows_take hl b (Nat.le_refl _), List.take_of_length_le (by omega)]
  unfold textU
  rw [downU_nl, hR, parseI_nl hne (fun l hl => (hRm l hl).2) (by omega), imgL_ok (by rw [hhd]; exact fun l hl => (hRm l hl).1), hhd, hRl, hcells]
  rw [hhd, hRl, hcells]
  exact h

/-! Counts by turning. -/
theorem sum_count (v : Int) (w : Nat) (f : Nat → Nat → Int) : ∀ h, (Pl.tab w h f).count v = ((List.range h).map fun y => ((List.range w).map fun x => f x y).count v).sum
  | 0 => rfl
  | h + 1 => by rw [Pl.tab_succ, List.count_append, sum_count v w f h, List.range_succ, List.map_append, List.sum_append]; simp
theorem count_row (v : Int) (g : Nat → Int) : ∀ w, ((List.range w).map g).count v = ((List.range w).map fun x => if g x = v then 1 else 0).sum
  | 0 => rfl
  | w + 1 => by
    rw [List.range_succ, List.map_append, List.count_append, count_row v g w, List.map_append, List.sum_append]
    simp [List.count_cons]
theorem sum_swap (F : Nat → Nat → Nat) (w : Nat) : ∀ h, ((List.range h).map fun y => ((List.range w).map fun x => F x y).sum).sum = ((List.range w).map fun x => ((List.range h).map fun y => F x y).sum).sum
  | 0 => by
    simp only [List.range_zero, List.map_nil, List.sum_nil]
    induction w with
    | zero => rfl
    | succ w ih => rw [List.range_succ, List.map_append, List.sum_append, ← ih]; rfl
  | h + 1 => by
    have e : ((List.range w).map fun x => ((List.range (h + 1)).map fun y => F x y).sum) = (List.range w).map fun x => ((List.range h).map fun y => F x y).sum + F x h := by
      refine List.map_congr_left fun x _ => ?_
      rw [List.range_succ, List.map_append, List.sum_append]; simp
    rw [e, List.range_succ, List.map_append, List.sum_append, sum_swap F w h]
    simp only [List.map_cons, List.map_nil, List.sum_cons, List.sum_nil, Nat.add_zero]
    generalize List.range w = L
    induction L with
    | nil => rfl
    | cons x L ih => simp only [List.map_cons, List.sum_cons] at ih ⊢; omega
theorem count_turn (v : Int) (w h : Nat) (f : Nat → Nat → Int) : (Pl.tab h w fun x y => f y x).count v = (Pl.tab w h f).count v := by
  rw [sum_count, sum_count]
  have e1 : ((List.range w).map fun y => ((List.range h).map fun x => f y x).count v) = (List.range w).map fun y => ((List.range h).map fun x => if f y x = v then 1 else 0).sum := List.map_congr_left fun y _ => count_row v _ h
  have e2 : ((List.range h).map fun y => ((List.range w).map fun x => f x y).count v) = (List.range h).map fun y => ((List.range w).map fun x => if f x y = v then 1 else 0).sum := List.map_congr_left fun y _ => count_row v _ w
  rw [e1, e2]
  exact (sum_swap (fun x y => if f x y = v then 1 else 0) w h).symm
theorem cntL_congr {l l' : List Int} (h : ∀ v, l.count v = l'.count v) : cntL l l.length = cntL l' l'.length := by
  unfold cntL
  rw [List.take_of_length_le (Nat.le_refl _), List.take_of_length_le (Nat.le_refl _)]
  exact List.map_congr_left fun c _ => by rw [h]
/-- The sum of the first k counts. -/
def psum (l : List Int) : Nat → Int
  | 0 => 0
  | k + 1 => psum l k + (cntL l l.length).getD k 0
theorem psum_bound (l : List Int) (hl : l.length ≤ 4096) : ∀ k, k ≤ 16 → 0 ≤ psum l k ∧ psum l k ≤ k * 4096
  | 0, _ => by simp [psum]
  | k + 1, h => by
    have ih := psum_bound l hl k (by omega)
    have := cntL_le (cs := l) (j := l.length) (show k < 16 by omega)
    unfold psum
    omega
theorem psum_count (l : List Int) : ∀ k, k ≤ 16 → psum l k = ((l.countP fun z => decide (0 ≤ z ∧ z < (k : Int)) : Nat) : Int)
  | 0, _ => by
    have : (l.countP fun z => decide (0 ≤ z ∧ z < ((0 : Nat) : Int))) = 0 := by
      rw [List.countP_eq_zero]
      intro z _
      first | (simp; done) | (simp; omega)
    rw [this]; rfl
  | k + 1, h => by
    rw [psum, psum_count l k (by omega), cntL_at (show k < 16 by omega), List.take_of_length_le (Nat.le_refl _), ← Int.natCast_add]
    congr 1
    clear h
    induction l with
    | nil => rfl
    | cons z t ih =>
      rw [List.countP_cons, List.countP_cons, List.count_cons, ← ih]
      by_cases h1 : 0 ≤ z ∧ z < (k : Int)
      · rw [if_pos (decide_eq_true h1), if_neg (by simp; omega), if_pos (decide_eq_true (by omega))]; omega
      · by_cases h2 : z = (k : Int)
        · rw [if_neg (by simpa using h1), if_pos (by simpa using h2), if_pos (decide_eq_true (by omega))]; omega
        · rw [if_neg (by simpa using h1), if_neg (by simpa using h2), if_neg (by simp; omega)]; omega
theorem psum_all {l : List Int} (h : fineL l = true) : psum l 16 = l.length := by
  rw [psum_count l 16 (Nat.le_refl _)]
  congr 1
  rw [List.countP_eq_length]
  intro z hz
  unfold fineL at h
  have := List.all_eq_true.1 h z hz
  simp only [decide_eq_true_eq] at this ⊢
  omega
end Go.Proofs.YtpfonniepinjnaaDoor
