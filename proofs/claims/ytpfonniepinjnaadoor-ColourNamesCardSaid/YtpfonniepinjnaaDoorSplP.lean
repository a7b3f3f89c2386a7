/- A text cut into its lines; what grid.Parse reads. No program in sight. -/
import Derived.Test.YtpfonniepinjnaaDoorTextP
import Derived.Lib.SplitLaws
import Derived.Lib.SlTrimSet
import Derived.Lib.Strings
namespace Go.Proofs.YtpfonniepinjnaaDoor
open Go.RowKit

/-- The lines of a text without its last line feed. -/
def spl : List UInt8 → List (List UInt8)
  | [] => [[]]
  | c :: t => if c = 10 then [] :: spl t else match spl t with
    | [] => [[c]]
    | h :: r => (c :: h) :: r
theorem spl_cons (c : UInt8) (t : List UInt8) : spl (c :: t) = if c = 10 then [] :: spl t else match spl t with
    | [] => [[c]]
    | h :: r => (c :: h) :: r := rfl
theorem spl_ne (s : List UInt8) : spl s ≠ [] := by
  cases s with
  | nil => simp [spl]
  | cons c t =>
    unfold spl
    split
    · simp
    · split <;> simp
theorem spl_none : ∀ {s : List UInt8}, 10 ∉ s → spl s = [s]
  | [], _ => rfl
  | c :: t, h => by
    have h1 : c ≠ 10 := fun e => h (by simp [e])
    have h2 := spl_none (s := t) (fun e => h (by simp [e]))
    unfold spl
    rw [if_neg h1, h2]
theorem spl_hit : ∀ {p q : List UInt8}, 10 ∉ p → spl (p ++ 10 :: q) = p :: spl q
  | [], q, _ => by simp [spl]
  | c :: p, q, h => by
    have h1 : c ≠ 10 := fun e => h (by simp [e])
    have h2 := spl_hit (p := p) (q := q) (fun e => h (by simp [e]))
    rw [List.cons_append, spl_cons, if_neg h1, h2]
theorem index_none : ∀ {s : List UInt8}, 10 ∉ s → Lib.index s [10] = -1
  | [], _ => rfl
  | c :: t, h => by
    have h1 : c ≠ 10 := fun e => h (by simp [e])
    have h2 := index_none (s := t) (fun e => h (by simp [e]))
    unfold Lib.index
    rw [h2, if_neg, if_pos (by rfl)]
    simp [List.isPrefixOf, Ne.symm h1]
theorem index_hit : ∀ {p q : List UInt8}, 10 ∉ p → Lib.index (p ++ 10 :: q) [10] = (p.length : Int)
  | [], q, _ => by simp [Lib.index, List.isPrefixOf]
  | c :: p, q, h => by
    have h1 : c ≠ 10 := fun e => h (by simp [e])
    have h2 := index_hit (p := p) (q := q) (fun e => h (by simp [e]))
    rw [List.cons_append]
    unfold Lib.index
    rw [h2, if_neg (by simp [List.isPrefixOf, Ne.symm h1]), if_neg (by simp)]
    simp
theorem splitK_spl : ∀ (k : Nat) (s : List UInt8), s.count 10 = k → Lib.splitK [10] 0 k s = spl s
  | 0, s, h => by
    rw [spl_none (List.count_eq_zero.1 h)]
    rfl
  | k + 1, s, h => by
    have hm : 10 ∈ s := List.count_pos_iff.1 (by omega)
    obtain ⟨p, q, rfl, hp⟩ := List.eq_append_cons_of_mem hm
    have hc : q.count 10 = k := by
      rw [List.count_append, List.count_cons_self, List.count_eq_zero.2 hp] at h
      omega
    have hi := index_hit (q := q) hp
    have hne : ¬ (Lib.index (p ++ 10 :: q) [10] == -1) = true := by rw [hi]; simp
    unfold Lib.splitK
    rw [if_neg hne, hi, spl_hit hp, Int.toNat_natCast]
    congr 1
    · simp
    · rw [show (p ++ 10 :: q).drop (p.length + ([10] : List UInt8).length) = q by simp]
      exact splitK_spl k q hc
/-- The text of some lines. -/
def nl (R : List (List UInt8)) : List UInt8 := R.flatMap fun l => l ++ [10]
theorem nl_spl : ∀ (s : List UInt8), nl (spl s) = s ++ [10]
  | [] => rfl
  | c :: t => by
    have ih := nl_spl t
    unfold spl
    split
    · rename_i h; subst h; show [] ++ [10] ++ nl (spl t) = _; rw [ih]; simp
    · split
      · rename_i h2; exact absurd h2 (spl_ne t)
      · rename_i h r h2
        rw [h2] at ih
        show (c :: h) ++ [10] ++ nl r = _
        have e : h ++ [10] ++ nl r = t ++ [10] := ih
        rw [List.cons_append, List.cons_append, e]
        rfl
theorem spl_nl : ∀ {R : List (List UInt8)} {s : List UInt8}, R ≠ [] → (∀ l ∈ R, 10 ∉ l) → nl R = s ++ [10] → spl s = R
  | [], _, h, _, _ => absurd rfl h
  | [r], s, _, hr, he => by
    have e : r ++ [10] ++ [] = s ++ [10] := he
    rw [List.append_nil] at e
    have e2 := List.append_cancel_right e
    subst e2
    exact spl_none (hr r (by simp))
  | r :: r2 :: R, s, _, hr, he => by
    have e : r ++ [10] ++ nl (r2 :: R) = s ++ [10] := he
    have hn : nl (r2 :: R) ≠ [] := by
      show r2 ++ [10] ++ nl R ≠ []
      simp
    obtain ⟨q, x, hq⟩ : ∃ q x, nl (r2 :: R) = q ++ [x] := ⟨_, _, (List.dropLast_concat_getLast hn).symm⟩
    rw [hq, ← List.append_assoc] at e
    obtain ⟨e1, e2⟩ := List.append_inj' e rfl
    injection e2 with e3
    subst e3
    have ih := spl_nl (R := r2 :: R) (s := q) (by simp) (fun l hl => hr l (by simp [hl])) hq
    rw [← e1, List.append_assoc, List.singleton_append, spl_hit (hr r (by simp)), ih]
theorem nl_append (a b : List (List UInt8)) : nl (a ++ b) = nl a ++ nl b := by simp [nl]

/-! What Parse reads. -/
def okc (c : UInt8) : Bool := ([120, 46] : List UInt8).contains c
def okn (c : UInt8) : Bool := ([120, 46, 10] : List UInt8).contains c
def cellsL (l : List UInt8) : List Bool := l.map fun c => c == 120
def bitsL (R : List (List UInt8)) : List Bool := R.reverse.flatMap cellsL
def lineOk (W : Nat) (l : List UInt8) : Bool := l.length == W && l.all okc
/-- The grid with some lines, if they make one. -/
def gridL (R : List (List UInt8)) : Gd × Int :=
  if R.all (lineOk (R.headD []).length) = true ∧ chk (R.headD []).length R.length (bitsL R).length = 0 then (⟨(R.headD []).length, R.length, bitsL R⟩, 0) else (Gd.zero, 12)
def parseG (s : List UInt8) : Gd × Int :=
  if Lib.hasSuffix s [10] = true ∧ s.all okn = true then gridL (spl (Lib.trimSuffix s [10])) else (Gd.zero, 12)
theorem trimS_nil {l cs : List UInt8} : Lib.trimS l cs = [] ↔ l.all (cs.contains ·) = true := by
  have hd : ∀ l : List UInt8, l.dropWhile (cs.contains ·) = [] ↔ l.all (cs.contains ·) = true := fun l => by
    induction l with
    | nil => simp
    | cons c t ih =>
      by_cases h : cs.contains c = true
      · rw [List.dropWhile_cons_of_pos h, ih]; simp
        intro _; simpa using h
      · rw [List.dropWhile_cons_of_neg h]; simp
        intro h2; exact absurd (by simpa using h2) h
  constructor
  · intro h
    unfold Lib.trimS Lib.trimLeftS at h
    rw [hd] at h
    unfold Lib.trimRightS at h
    have h1 : l.reverse = l.reverse.takeWhile (cs.contains ·) ++ l.reverse.dropWhile (cs.contains ·) := List.takeWhile_append_dropWhile.symm
    have h2 : (l.reverse.takeWhile (cs.contains ·)).all (cs.contains ·) = true := List.all_takeWhile
    have h3 : l.reverse.all (cs.contains ·) = true := by
      rw [h1, List.all_append, h2, Bool.true_and]
      rw [List.all_reverse] at h
      exact h
    rw [List.all_reverse] at h3
    exact h3
  · intro h
    have h1 : Lib.trimRightS l cs = [] := by
      unfold Lib.trimRightS
      rw [(hd l.reverse).2 (by rw [List.all_reverse]; exact h)]
      rfl
    unfold Lib.trimS
    rw [h1]
    rfl
theorem trim_line {l : List UInt8} : Lib.trimS l [120, 46] = [] ↔ l.all okc = true := trimS_nil
theorem trim_text {l : List UInt8} : Lib.trimS l [120, 46, 10] = [] ↔ l.all okn = true := trimS_nil
theorem suffix_text {s : List UInt8} (h : Lib.hasSuffix s [10] = true) : s = Lib.trimSuffix s [10] ++ [10] := by
  unfold Lib.trimSuffix
  rw [if_pos h]
  unfold Lib.hasSuffix at h
  obtain ⟨t, ht⟩ := List.isSuffixOf_iff_suffix.1 h
  rw [← ht]
  simp
theorem parseG_no1 {s : List UInt8} (h : Lib.hasSuffix s [10] = false) : parseG s = (Gd.zero, 12) := by unfold parseG; rw [if_neg (by rw [h]; simp)]
theorem parseG_no2 {s : List UInt8} (h : Lib.trimS s [120, 46, 10] ≠ []) : parseG s = (Gd.zero, 12) := by
  unfold parseG
  rw [if_neg]
  rintro ⟨_, h2⟩
  exact h (trim_text.2 h2)
theorem parseG_lines {s : List UInt8} (h : Lib.hasSuffix s [10] = true) (h2 : Lib.trimS s [120, 46, 10] = []) : parseG s = gridL (spl (Lib.trimSuffix s [10])) := by
  unfold parseG
  rw [if_pos ⟨h, trim_text.1 h2⟩]
theorem gridL_no {R : List (List UInt8)} {l : List UInt8} (hl : l ∈ R) (h : l.length ≠ (R.headD []).length ∨ Lib.trimS l [120, 46] ≠ []) : gridL R = (Gd.zero, 12) := by
  unfold gridL
  rw [if_neg]
  rintro ⟨h1, _⟩
  have h2 := List.all_eq_true.1 h1 l hl
  unfold lineOk at h2
  rw [Bool.and_eq_true, beq_iff_eq] at h2
  rcases h with h | h
  · exact h h2.1
  · exact h (trim_line.2 h2.2)
theorem gridL_bad {R : List (List UInt8)} (h : chk (R.headD []).length R.length (bitsL R).length ≠ 0) : gridL R = (Gd.zero, 12) := by
  unfold gridL
  rw [if_neg]
  rintro ⟨_, h1⟩
  exact h h1
theorem gridL_ok {R : List (List UInt8)} (h0 : ∀ l ∈ R, l.length = (R.headD []).length ∧ Lib.trimS l [120, 46] = []) (h : chk (R.headD []).length R.length (bitsL R).length = 0) : gridL R = (⟨(R.headD []).length, R.length, bitsL R⟩, 0) := by
  unfold gridL
  rw [if_pos]
  refine ⟨List.all_eq_true.2 fun l hl => ?_, h⟩
  obtain ⟨h1, h2⟩ := h0 l hl
  unfold lineOk
  rw [Bool.and_eq_true, beq_iff_eq]
  exact ⟨h1, trim_line.1 h2⟩
end Go.Proofs.YtpfonniepinjnaaDoor
