/- The text of a grid is read as the grid; what is read has the text. No program in sight. -/
import Derived.Test.YtebbcpeldncekaaDoorSplPz
namespace Go.Proofs.YtebbcpeldncekaaDoor
open Go.RowKit

theorem downT_nl (f : Nat → List UInt8) : ∀ b, downT (fun y => f y ++ [10]) b = nl ((List.range b).reverse.map f)
  | 0 => rfl
  | k + 1 => by
    rw [List.range_succ, List.reverse_append, List.reverse_singleton, List.map_append, nl_append]
    show f k ++ [10] ++ downT _ k = _
    rw [downT_nl f k]
    simp [nl]
theorem ch_ok (b : Bool) : okc (ch b) = true := by cases b <;> decide
theorem ch_cell (b : Bool) : (ch b == 120) = b := by cases b <;> decide
theorem cells_ch (l : List Bool) : cellsL (l.map ch) = l := by
  unfold cellsL
  rw [List.map_map]
  conv => rhs; rw [← List.map_id l]
  refine List.map_congr_left fun b _ => ch_cell b
theorem ch_cells {l : List UInt8} (h : l.all okc = true) : (cellsL l).map ch = l := by
  unfold cellsL
  rw [List.map_map]
  conv => rhs; rw [← List.map_id l]
  refine List.map_congr_left fun c hc => ?_
  have h1 := List.all_eq_true.1 h c hc
  unfold okc at h1
  simp only [List.contains_cons, List.contains_nil, Bool.or_false, Bool.or_eq_true, beq_iff_eq] at h1
  rcases h1 with rfl | rfl <;> decide
/-- The rows of a grid, from the top, as lines. -/
def linesG (a b : Nat) (bs : List Bool) : List (List UInt8) := (List.range b).reverse.map fun y => (rowAt a bs y).map ch
theorem textL_nl (a b : Nat) (bs : List Bool) : textL a b bs = nl (linesG a b bs) := downT_nl (fun y => (rowAt a bs y).map ch) b
theorem lines_bits {a b : Nat} {bs : List Bool} (hl : bs.length = b * a) : bitsL (linesG a b bs) = bs := by
  unfold bitsL linesG
  rw [List.map_reverse, List.reverse_reverse, List.flatMap_map]
  simp only [cells_ch]
  have key : ∀ k, k ≤ b → (List.range k).flatMap (rowAt a bs) = bs.take (k * a) := fun k => by
    induction k with
    | zero => intro _; simp
    | succ k ih =>
      intro hk
      rw [List.range_succ, List.flatMap_append, ih (by omega), Nat.succ_mul]
      simp only [List.flatMap_cons, List.flatMap_nil, List.append_nil]
      unfold rowAt
      rw [List.take_add]
  rw [key b (Nat.le_refl _), ← hl, List.take_of_length_le (Nat.le_refl _)]
theorem lines_mem {a b : Nat} {bs : List Bool} (hl : bs.length = b * a) {l : List UInt8} (h : l ∈ linesG a b bs) : l.length = a ∧ l.all okc = true := by
  unfold linesG at h
  rw [List.mem_map] at h
  obtain ⟨y, hy, rfl⟩ := h
  rw [List.mem_reverse, List.mem_range] at hy
  refine ⟨by rw [List.length_map, rowAt_length hl hy], ?_⟩
  rw [List.all_map]
  exact List.all_eq_true.2 fun b _ => ch_ok b
theorem okc_no10 {l : List UInt8} (h : l.all okc = true) : 10 ∉ l := fun hm => by
  have := List.all_eq_true.1 h 10 hm
  revert this
  decide
theorem nl_text {R : List (List UInt8)} (hne : R ≠ []) (hok : ∀ l ∈ R, l.all okc = true) : Lib.hasSuffix (nl R) [10] = true ∧ (nl R).all okn = true ∧ spl (Lib.trimSuffix (nl R) [10]) = R := by
  have hn : nl R ≠ [] := by
    cases R with
    | nil => exact absurd rfl hne
    | cons r R => show r ++ [10] ++ nl R ≠ []; simp
  have hsuf : ∃ q, nl R = q ++ [10] := by
    obtain ⟨R', r, rfl⟩ : ∃ R' r, R = R' ++ [r] := ⟨_, _, (List.dropLast_concat_getLast hne).symm⟩
    refine ⟨nl R' ++ r, ?_⟩
    rw [nl_append]
    simp [nl]
  obtain ⟨q, hq⟩ := hsuf
  have h1 : Lib.hasSuffix (nl R) [10] = true := by
    unfold Lib.hasSuffix
    rw [List.isSuffixOf_iff_suffix, hq]
    exact ⟨q, rfl⟩
  refine ⟨h1, ?_, ?_⟩
  · unfold nl
    rw [List.all_flatMap]
    refine List.all_eq_true.2 fun l hl => ?_
    rw [List.all_append, Bool.and_eq_true]
    refine ⟨List.all_eq_true.2 fun c hc => ?_, by decide⟩
    have := List.all_eq_true.1 (hok l hl) c hc
    unfold okc at this
    unfold okn
    simp only [List.contains_cons, List.contains_nil, Bool.or_false, Bool.or_eq_true] at this ⊢
    rcases this with h | h
    · exact .inl h
    · exact .inr (.inl h)
  · refine spl_nl hne (fun l hl => okc_no10 (hok l hl)) ?_
    exact suffix_text h1
/-- Parse of Text. -/
theorem parse_text {a b : Nat} {bs : List Bool} (hc : chkG ⟨a, b, bs⟩ = 0) : parseG (textL a b bs) = (⟨a, b, bs⟩, 0) := by
  have hc' : chk (a : Int) (b : Int) bs.length = 0 := hc
  obtain ⟨a', b', e1, e2, ha1, _, hb1, _, hl⟩ := chk_zero hc'
  have ea : a = a' := by omega
  have eb : b = b' := by omega
  subst ea eb
  have hlen : (linesG a b bs).length = b := by simp [linesG]
  have hne : linesG a b bs ≠ [] := fun e => by rw [e] at hlen; simp at hlen; omega
  obtain ⟨h1, h2, h3⟩ := nl_text hne (fun l hm => (lines_mem hl hm).2)
  have hhd : ((linesG a b bs).headD []).length = a := by
    cases h : linesG a b bs with
    | nil => exact absurd h hne
    | cons r R => exact (lines_mem hl (l := r) (by rw [h]; simp)).1
  rw [textL_nl, parseG_lines h1 (trim_text.2 h2), h3]
  have := gridL_ok (R := linesG a b bs) (fun l hm => by rw [hhd]; exact ⟨(lines_mem hl hm).1, trim_line.2 (lines_mem hl hm).2⟩) (by rw [hhd, hlen, lines_bits hl]; exact hc')
  rw [this, hhd, hlen, lines_bits hl]
theorem flat_row {W : Nat} : ∀ {RR : List (List UInt8)} {y : Nat}, (∀ l ∈ RR, l.length = W) → y < RR.length → rowAt W (RR.flatMap cellsL) y = cellsL (RR.getD y [])
  | [], _, _, h => absurd h (by simp)
  | r :: RR, 0, hw, _ => by
    have hr : (cellsL r).length = W := by rw [← hw r (by simp)]; simp [cellsL]
    unfold rowAt
    rw [Nat.zero_mul, List.drop_zero, List.flatMap_cons, List.take_append_of_le_length (by omega), List.take_of_length_le (by omega)]
    rfl
  | r :: RR, y + 1, hw, hy => by
    have hr : (cellsL r).length = W := by rw [← hw r (by simp)]; simp [cellsL]
    have ih := flat_row (W := W) (RR := RR) (y := y) (fun l hl => hw l (by simp [hl])) (by simpa using hy)
    unfold rowAt at ih ⊢
    have e : (cellsL r ++ RR.flatMap cellsL).drop ((y + 1) * W) = (RR.flatMap cellsL).drop (y * W) := by
      rw [show (y + 1) * W = (cellsL r).length + y * W by rw [hr, Nat.succ_mul]; omega, List.drop_append]
      simp
    rw [List.flatMap_cons, e, ih]
    rfl
/-- Text of what was parsed. -/
theorem text_parse {s : List UInt8} {g : Gd} (h : parseG s = (g, 0)) : chkG g = 0 ∧ textG g = (s, 0) := by
  unfold parseG at h
  split at h
  · rename_i hc
    obtain ⟨h1, h2⟩ := hc
    have hs := suffix_text h1
    have hnl := nl_spl (Lib.trimSuffix s [10])
    rw [← hs] at hnl
    unfold gridL at h
    split at h
    · rename_i hr
      obtain ⟨h3, h4⟩ := hr
      injection h with h5 _
      subst h5
      generalize spl (Lib.trimSuffix s [10]) = R at *
      obtain ⟨W, hW⟩ : ∃ W, (R.headD []).length = W := ⟨_, rfl⟩
      rw [hW] at h3 h4 ⊢
      have hck : chkG ⟨(W : Int), (R.length : Int), bitsL R⟩ = 0 := h4
      refine ⟨hck, ?_⟩
      rw [textG_ok hck, textL_nl, ← hnl]
      congr 2
      have hl : ∀ l ∈ R, l.length = W ∧ l.all okc = true := fun l hm => by
        have := List.all_eq_true.1 h3 l hm
        unfold lineOk at this
        rw [Bool.and_eq_true, beq_iff_eq] at this
        exact this
      unfold linesG
      refine List.ext_getElem? fun i => ?_
      rw [List.getElem?_map]
      by_cases hi : i < R.length
      · rw [List.getElem?_reverse (by simpa using hi), List.length_range, List.getElem?_range (by omega), Option.map_some]
        have hy : R.length - 1 - i < R.reverse.length := by simp; omega
        unfold bitsL
        rw [flat_row (fun l hm => (hl l (by simpa using hm)).1) hy, List.getD_eq_getElem?_getD, List.getElem?_reverse (by omega), show R.length - 1 - (R.length - 1 - i) = i by omega, List.getElem?_eq_getElem hi, Option.getD_some]
        congr 1
        exact ch_cells (hl _ (List.getElem_mem hi)).2
      · rw [List.getElem?_eq_none (by simpa using hi), List.getElem?_eq_none (by omega)]
        rfl
    · injection h with _ h6; cases h6
  · injection h with _ h6; cases h6
theorem parse_err (s : List UInt8) : (parseG s).2 = 0 ∨ (parseG s) = (Gd.zero, 12) := by
  unfold parseG
  split
  · unfold gridL
    split
    · exact .inl rfl
    · exact .inr rfl
  · exact .inr rfl
end Go.Proofs.YtebbcpeldncekaaDoor
