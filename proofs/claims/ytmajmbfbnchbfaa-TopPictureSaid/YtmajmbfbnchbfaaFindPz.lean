/- The reference's search for thread colours: palettes, lists of indices that are counted up, picks. No program in sight. -/
import Derived.Test.YtmajmbfbnchbfaaFirstPz
namespace Go.Proofs.Ytmajmbfbnchbfaa

/-! Lists of digits, counted up. -/
def valN (n : Nat) : List Int → Int
  | [] => 0
  | d :: ds => d * ((n ^ ds.length : Nat) : Int) + valN n ds
def Dig (n : Nat) (l : List Int) : Prop := ∀ d ∈ l, 0 ≤ d ∧ d < n
section
variable {n : Nat}
theorem Dig.tail {d : Int} {l : List Int} (h : Dig n (d :: l)) : Dig n l := fun x hx => h x (List.mem_cons_of_mem _ hx)
theorem mul_step {d D P v : Int} (hd : d + 1 ≤ D) (hP : 0 ≤ P) (hv : v < P) : d * P + v < D * P := by
  have h := Int.mul_le_mul_of_nonneg_right hd hP
  rw [Int.add_mul, Int.one_mul] at h
  omega
theorem valN_lt : ∀ {l : List Int}, Dig n l → 0 ≤ valN n l ∧ valN n l < ((n ^ l.length : Nat) : Int)
  | [], _ => by simp [valN]
  | d :: ds, h => by
    have h1 := valN_lt h.tail
    have h2 := h d (List.mem_cons_self)
    unfold valN
    have hP : (0 : Int) ≤ ((n ^ ds.length : Nat) : Int) := Int.natCast_nonneg _
    refine ⟨?_, ?_⟩
    · have := Int.mul_nonneg h2.1 hP
      omega
    · have := mul_step (D := n) (by omega : d + 1 ≤ n) hP h1.2
      rw [List.length_cons, Nat.pow_succ, Int.natCast_mul, Int.mul_comm ((n ^ ds.length : Nat) : Int)]
      exact this
theorem valN_lex : ∀ {l l' : List Int}, Dig n l → Dig n l' → l.length = l'.length → valN n l ≤ valN n l' → l = l' ∨ ∃ j, j < l.length ∧ l.getD j 0 < l'.getD j 0 ∧ ∀ i, i < j → l.getD i 0 = l'.getD i 0
  | [], [], _, _, _, _ => .inl rfl
  | [], _ :: _, _, _, h, _ => by simp at h
  | _ :: _, [], _, _, h, _ => by simp at h
  | d :: ds, d' :: ds', h, h', hl, hv => by
    have hl2 : ds.length = ds'.length := by simpa using hl
    have h1 := valN_lt h.tail
    have h1' := valN_lt h'.tail
    unfold valN at hv
    rw [hl2] at hv h1
    have hP : (0 : Int) ≤ ((n ^ ds'.length : Nat) : Int) := Int.natCast_nonneg _
    generalize ((n ^ ds'.length : Nat) : Int) = P at *
    rcases Int.lt_trichotomy d d' with hd | hd | hd
    · exact .inr ⟨0, by simp, by simpa using hd, fun i hi => by omega⟩
    · subst hd
      rcases valN_lex h.tail h'.tail hl2 (by omega) with e | ⟨j, hj, hlt, ha⟩
      · exact .inl (by rw [e])
      · refine .inr ⟨j + 1, by simp; omega, by simpa using hlt, fun i hi => ?_⟩
        cases i with
        | zero => rfl
        | succ i => simpa using ha i (by omega)
    · have := mul_step (by omega : d' + 1 ≤ d) hP h1'.2
      omega
theorem valN_inj {l l' : List Int} (h : Dig n l) (h' : Dig n l') (hl : l.length = l'.length) (hv : valN n l = valN n l') : l = l' := by
  rcases valN_lex h h' hl (by omega) with e | ⟨j, hj, hlt, ha⟩
  · exact e
  · rcases valN_lex h' h hl.symm (by omega) with e | ⟨j', hj', hlt', ha'⟩
    · exact e.symm
    · rcases Nat.lt_trichotomy j j' with h1 | h1 | h1
      · have := ha' j h1; omega
      · subst h1; omega
      · have := ha j' h1; omega
theorem valN_set : ∀ (l : List Int) (i : Nat) (x : Int), i < l.length → valN n (l.set i x) = valN n l + (x - l.getD i 0) * ((n ^ (l.length - 1 - i) : Nat) : Int)
  | [], _, _, h => by simp at h
  | d :: ds, 0, x, _ => by
    simp only [List.set_cons_zero, valN, List.length_cons, List.getD_cons_zero, Nat.add_sub_cancel, Nat.sub_zero]
    rw [Int.sub_mul]
    omega
  | d :: ds, i + 1, x, h => by
    simp only [List.set_cons_succ, valN, List.length_set, List.length_cons, List.getD_cons_succ]
    rw [valN_set ds i x (by simpa using h), show ds.length + 1 - 1 - (i + 1) = ds.length - 1 - i by omega]
    omega
theorem getD_set_same (l : List Int) (i : Nat) (x y : Int) (h : i < l.length) : (l.set i x).getD i y = x := by
  rw [List.getD_eq_getElem?_getD, List.getElem?_set_self h]; rfl
theorem getD_set_other (l : List Int) (i j : Nat) (x y : Int) (h : i ≠ j) : (l.set i x).getD j y = l.getD j y := by
  rw [List.getD_eq_getElem?_getD, List.getElem?_set_ne h, List.getD_eq_getElem?_getD]
theorem Dig.set {l : List Int} (h : Dig n l) {i : Nat} {x : Int} (hx : 0 ≤ x ∧ x < n) : Dig n (l.set i x) := fun d hd => by
  rcases List.mem_or_eq_of_mem_set hd with h1 | h1
  · exact h d h1
  · rw [h1]; exact hx
theorem Dig.at {l : List Int} (h : Dig n l) {i : Nat} (hi : i < l.length) : 0 ≤ l.getD i 0 ∧ l.getD i 0 < n := by
  rw [List.getD_eq_getElem?_getD, List.getElem?_eq_getElem hi]
  exact h _ (List.getElem_mem hi)
theorem Dig.zeros (a : Nat) (hn : 0 < n) : Dig n (List.replicate a 0) := fun d hd => by
  rw [(List.mem_replicate.1 hd).2]; omega
theorem valN_zeros : ∀ {l : List Int}, (∀ i, i < l.length → l.getD i 0 = 0) → valN n l = 0
  | [], _ => rfl
  | d :: ds, h => by
    have h0 := h 0 (by simp)
    simp only [List.getD_cons_zero] at h0
    subst h0
    unfold valN
    rw [Int.zero_mul, Int.zero_add]
    exact valN_zeros (l := ds) fun i hi => by simpa using h (i + 1) (by simpa using hi)
/-- The count's carry has come to the place J from the end. -/
structure NextInv (n : Nat) (l cur : List Int) (J : Nat) : Prop where
  len : cur.length = l.length
  dig : Dig n cur
  le : J ≤ l.length
  val : valN n cur + ((n ^ J : Nat) : Int) = valN n l + 1
  zero : ∀ i, l.length - J ≤ i → i < l.length → cur.getD i 0 = 0
theorem NextInv.start {l : List Int} (h : Dig n l) : NextInv n l l 0 := ⟨rfl, h, Nat.zero_le _, by simp, fun i h1 h2 => by omega⟩
theorem NextInv.stop {l cur : List Int} {i : Nat} (h : NextInv n l cur (l.length - 1 - i)) (hi : i < l.length) (hlt : cur.getD i 0 + 1 < n) : Dig n (cur.set i (cur.getD i 0 + 1)) ∧ valN n (cur.set i (cur.getD i 0 + 1)) = valN n l + 1 := by
  have h1 := h.dig.at (i := i) (by rw [h.len]; exact hi)
  refine ⟨h.dig.set ⟨by omega, hlt⟩, ?_⟩
  rw [valN_set cur i _ (by rw [h.len]; exact hi), ← h.val, h.len]
  rw [show cur.getD i 0 + 1 - cur.getD i 0 = 1 by omega, Int.one_mul]
theorem NextInv.round {l cur : List Int} {i : Nat} (h : NextInv n l cur (l.length - 1 - i)) (hi : i < l.length) (hlt : ¬ cur.getD i 0 + 1 < n) : NextInv n l (cur.set i 0) (l.length - i) := by
  have h1 := h.dig.at (i := i) (by rw [h.len]; exact hi)
  have h2 := h.val
  refine ⟨by rw [List.length_set, h.len], h.dig.set ⟨by omega, by omega⟩, by omega, ?_, fun j hj hj2 => ?_⟩
  · rw [valN_set cur i _ (by rw [h.len]; exact hi), h.len]
    have e : cur.getD i 0 = n - 1 := by omega
    rw [e, show l.length - i = l.length - 1 - i + 1 by omega, Nat.pow_succ, Int.natCast_mul, ← h2]
    generalize ((n ^ (l.length - 1 - i) : Nat) : Int) = P
    rw [show (0 - ((n : Int) - 1)) = 1 - n by omega, Int.sub_mul, Int.one_mul, Int.mul_comm P]
    omega
  · by_cases e : i = j
    · subst e
      exact getD_set_same _ _ _ _ (by rw [h.len]; exact hi)
    · rw [getD_set_other _ _ _ _ _ e]
      exact h.zero j (by omega) hj2
theorem NextInv.last {l cur : List Int} (h : NextInv n l cur l.length) : valN n l + 1 = ((n ^ l.length : Nat) : Int) := by
  have h1 := h.val
  rw [valN_zeros (fun i hi => h.zero i (by omega) (by rw [← h.len]; exact hi))] at h1
  omega
end

/-! Palettes. -/
def palL (cs : List Int) : Nat → List Int × Bool
  | 0 => ([], false)
  | c + 1 => (if decide ((c : Int) ∈ cs) || !(palL cs c).2 then (palL cs c).1 ++ [(c : Int)] else (palL cs c).1, (palL cs c).2 || !decide ((c : Int) ∈ cs))
def pal (cs : List Int) : List Int := (palL cs 16).1
section
variable {cs : List Int}
theorem palL_two (k : Nat) : (palL cs k).2 = true ↔ ∃ d : Nat, d < k ∧ (d : Int) ∉ cs := by
  induction k with
  | zero => simp [palL]
  | succ c ih =>
    unfold palL
    simp only [Bool.or_eq_true, Bool.not_eq_true', decide_eq_false_iff_not]
    rw [ih]
    constructor
    · rintro (⟨d, h1, h2⟩ | h)
      · exact ⟨d, by omega, h2⟩
      · exact ⟨c, by omega, h⟩
    · rintro ⟨d, h1, h2⟩
      by_cases e : d = c
      · subst e; exact .inr h2
      · exact .inl ⟨d, by omega, h2⟩
theorem palL_one (k : Nat) (c : Int) : c ∈ (palL cs k).1 ↔ 0 ≤ c ∧ c < k ∧ (c ∈ cs ∨ ∀ d : Nat, (d : Int) < c → (d : Int) ∈ cs) := by
  induction k with
  | zero => simp [palL]; omega
  | succ j ih =>
    have h2 := palL_two (cs := cs) j
    unfold palL
    simp only
    by_cases hj : (decide ((j : Int) ∈ cs) || !(palL cs j).2) = true
    · rw [if_pos hj, List.mem_append, ih, List.mem_singleton]
      rw [Bool.or_eq_true, decide_eq_true_eq, Bool.not_eq_true'] at hj
      constructor
      · rintro (⟨h3, h4, h5⟩ | rfl)
        · exact ⟨h3, by omega, h5⟩
        · refine ⟨by omega, by omega, ?_⟩
          rcases hj with h3 | h3
          · exact .inl h3
          · right
            intro d hd
            by_cases hm : (d : Int) ∈ cs
            · exact hm
            · have := h2.2 ⟨d, by omega, hm⟩
              rw [h3] at this
              cases this
      · rintro ⟨h3, h4, h5⟩
        by_cases e : c = j
        · exact .inr e
        · exact .inl ⟨h3, by omega, h5⟩
    · rw [if_neg hj, ih]
      rw [Bool.or_eq_true, decide_eq_true_eq, Bool.not_eq_true', not_or, Bool.not_eq_false] at hj
      constructor
      · rintro ⟨h3, h4, h5⟩
        exact ⟨h3, by omega, h5⟩
      · rintro ⟨h3, h4, h5⟩
        refine ⟨h3, ?_, h5⟩
        by_cases e : c = j
        · exfalso
          subst e
          rcases h5 with h5 | h5
          · exact hj.1 h5
          · obtain ⟨d, h6, h7⟩ := h2.1 hj.2
            exact h7 (h5 d (by omega))
        · omega
theorem palL_inc (k : Nat) : (palL cs k).1.Pairwise (· < ·) := by
  induction k with
  | zero => simp [palL]
  | succ j ih =>
    unfold palL
    simp only
    split
    · rw [List.pairwise_append]
      refine ⟨ih, by simp, fun x hx y hy => ?_⟩
      rw [List.mem_singleton] at hy
      subst hy
      exact (palL_one j x).1 hx |>.2.1
    · exact ih
theorem palL_len (k : Nat) : (palL cs k).1.length ≤ k := by
  induction k with
  | zero => simp [palL]
  | succ j ih =>
    unfold palL
    simp only
    split
    · simp; omega
    · omega
theorem mem_pal (c : Int) : c ∈ pal cs ↔ 0 ≤ c ∧ c < 16 ∧ (c ∈ cs ∨ ∀ d : Nat, (d : Int) < c → (d : Int) ∈ cs) := palL_one 16 c
theorem pal_pos : 0 < (pal cs).length := List.length_pos_of_mem ((mem_pal 0).2 ⟨by omega, by omega, .inr fun d hd => by omega⟩)
theorem pal_len : (pal cs).length ≤ 16 := palL_len 16
theorem pal_lt {i j : Nat} (hj : j < (pal cs).length) (hij : i < j) : (pal cs).getD i 0 < (pal cs).getD j 0 := by
  rw [List.getD_eq_getElem?_getD, List.getD_eq_getElem?_getD, List.getElem?_eq_getElem hj, List.getElem?_eq_getElem (by omega)]
  exact (List.pairwise_iff_getElem.1 (palL_inc (cs := cs) 16)) i j (Nat.lt_trans hij hj) hj hij
/-- A colour that the palette lacks: a lesser one there that is not in the image either. -/
theorem pal_other {c : Int} (h0 : 0 ≤ c) (h15 : c ≤ 15) (h : c ∉ pal cs) : ∃ o, o ∈ pal cs ∧ o < c ∧ o ∉ cs := by
  have h1 : ¬ (c ∈ cs ∨ ∀ d : Nat, (d : Int) < c → (d : Int) ∈ cs) := fun q => h ((mem_pal c).2 ⟨h0, by omega, q⟩)
  rw [not_or] at h1
  obtain ⟨_, h2⟩ := h1
  have key : ∀ k : Nat, (∃ d : Nat, d < k ∧ (d : Int) ∉ cs) → ∃ o : Nat, o < k ∧ (o : Int) ∉ cs ∧ ∀ d : Nat, d < o → (d : Int) ∈ cs := by
    intro k
    induction k with
    | zero => rintro ⟨d, hd, _⟩; omega
    | succ k ih =>
      rintro ⟨d, hd, hm⟩
      by_cases hex : ∃ d : Nat, d < k ∧ (d : Int) ∉ cs
      · obtain ⟨o, q1, q2, q3⟩ := ih hex
        exact ⟨o, by omega, q2, q3⟩
      · have hdk : d = k := by
          by_cases e : d = k
          · exact e
          · exact absurd ⟨d, by omega, hm⟩ hex
        subst hdk
        refine ⟨d, by omega, hm, fun d' hd' => ?_⟩
        by_cases hm' : (d' : Int) ∈ cs
        · exact hm'
        · exact absurd ⟨d', hd', hm'⟩ hex
  have hex : ∃ d : Nat, d < c.toNat ∧ (d : Int) ∉ cs := by
    by_cases q : ∃ d : Nat, d < c.toNat ∧ (d : Int) ∉ cs
    · exact q
    · exfalso
      refine h2 fun d hd => ?_
      by_cases hm : (d : Int) ∈ cs
      · exact hm
      · exact absurd ⟨d, by omega, hm⟩ q
  obtain ⟨o, q1, q2, q3⟩ := key _ hex
  exact ⟨o, (mem_pal _).2 ⟨by omega, by omega, .inr fun d hd => q3 d (by omega)⟩, by omega, q2⟩
end

/-! The colours with some indices of a palette; the picks that fit. -/
def colL (p l : List Int) : List Int := l.map fun i => p.getD i.toNat 0
theorem colL_len (p l : List Int) : (colL p l).length = l.length := by simp [colL]
theorem colL_at {p l : List Int} {x : Nat} (hx : x < l.length) : (colL p l).getD x 0 = p.getD (l.getD x 0).toNat 0 := by
  unfold colL
  rw [List.getD_eq_getElem?_getD, List.getElem?_map, List.getElem?_eq_getElem hx, List.getD_eq_getElem?_getD (l := l), List.getElem?_eq_getElem hx]
  rfl
def pickN (cs : List Int) (a : Nat) (w : List Int) (y : Nat) : Nat → Int
  | 0 => -1
  | x + 1 => if pickN cs a w y x = -2 then -2 else if cs.getD (y * a + x) 0 = w.getD x 0 then pickN cs a w y x else if 0 ≤ pickN cs a w y x ∧ pickN cs a w y x ≠ cs.getD (y * a + x) 0 then -2 else cs.getD (y * a + x) 0
theorem pickN_stuck {cs : List Int} {a : Nat} {w : List Int} {y x : Nat} (h : pickN cs a w y x = -2) : ∀ k, pickN cs a w y (x + k) = -2
  | 0 => h
  | k + 1 => by
    rw [show x + (k + 1) = x + k + 1 by omega]
    unfold pickN
    rw [if_pos (pickN_stuck h k)]
theorem pickN_keep {cs : List Int} {a : Nat} {w : List Int} {y x k : Nat} (h : pickN cs a w y k ≠ -2) (hx : x ≤ k) : pickN cs a w y x ≠ -2 := fun e => h (by
  have := pickN_stuck e (k - x)
  rwa [show x + (k - x) = k by omega] at this)
section
variable {cs : List Int} {a b : Nat} {w : List Int} {y : Nat}
theorem pickN_is (hv : ∀ x, x < a → 0 ≤ cs.getD (y * a + x) 0 ∧ cs.getD (y * a + x) 0 ≤ 15) : ∀ k, k ≤ a → (pickN cs a w y k = -2 ∧ ∃ x x', x < k ∧ x' < k ∧ cs.getD (y * a + x) 0 ≠ w.getD x 0 ∧ cs.getD (y * a + x') 0 ≠ w.getD x' 0 ∧ cs.getD (y * a + x) 0 ≠ cs.getD (y * a + x') 0) ∨
    (pickN cs a w y k = -1 ∧ ∀ x, x < k → cs.getD (y * a + x) 0 = w.getD x 0) ∨ (0 ≤ pickN cs a w y k ∧ pickN cs a w y k ≤ 15 ∧ (∀ x, x < k → cs.getD (y * a + x) 0 ≠ w.getD x 0 → cs.getD (y * a + x) 0 = pickN cs a w y k) ∧ ∃ x, x < k ∧ cs.getD (y * a + x) 0 ≠ w.getD x 0 ∧ cs.getD (y * a + x) 0 = pickN cs a w y k)
  | 0, _ => .inr (.inl ⟨rfl, fun x hx => by omega⟩)
  | k + 1, hk => by
    have hvk := hv k (by omega)
    have ih := pickN_is hv k (by omega)
    unfold pickN
    generalize pickN cs a w y k = c at *
    rcases ih with ⟨rfl, x, x', h1, h2, h3⟩ | ⟨rfl, h1⟩ | ⟨h1, h2, h3, x, h4, h5, h6⟩
    · rw [if_pos rfl]
      exact .inl ⟨rfl, x, x', by omega, by omega, h3⟩
    · rw [if_neg (by omega)]
      by_cases e : cs.getD (y * a + k) 0 = w.getD k 0
      · rw [if_pos e]
        refine .inr (.inl ⟨rfl, fun x hx => ?_⟩)
        by_cases hxk : x = k
        · subst hxk; exact e
        · exact h1 x (by omega)
      · rw [if_neg e, if_neg (by omega)]
        refine .inr (.inr ⟨hvk.1, hvk.2, fun x hx hne => ?_, k, by omega, e, rfl⟩)
        by_cases hxk : x = k
        · subst hxk; rfl
        · exact absurd (h1 x (by omega)) hne
    · rw [if_neg (by omega)]
      by_cases e : cs.getD (y * a + k) 0 = w.getD k 0
      · rw [if_pos e]
        refine .inr (.inr ⟨h1, h2, fun x' hx hne => ?_, x, by omega, h5, h6⟩)
        by_cases hxk : x' = k
        · subst hxk; exact absurd e hne
        · exact h3 x' (by omega) hne
      · rw [if_neg e]
        by_cases e2 : c = cs.getD (y * a + k) 0
        · rw [if_neg (fun q => q.2 e2)]
          refine .inr (.inr ⟨hvk.1, hvk.2, fun x' hx hne => ?_, k, by omega, e, rfl⟩)
          by_cases hxk : x' = k
          · subst hxk; rfl
          · rw [← e2]; exact h3 x' (by omega) hne
        · rw [if_pos ⟨h1, e2⟩]
          exact .inl ⟨rfl, x, k, by omega, by omega, h5, e, by rw [h6]; exact e2⟩
/-- Which colours a pick may have: all, one, none. -/
theorem pickN_fits (hv : ∀ x, x < a → 0 ≤ cs.getD (y * a + x) 0 ∧ cs.getD (y * a + x) 0 ≤ 15) (d : Int) : (∀ x, x < a → w.getD x 0 = cs.getD (y * a + x) 0 ∨ d = cs.getD (y * a + x) 0) ↔ pickN cs a w y a = -1 ∨ (0 ≤ pickN cs a w y a ∧ pickN cs a w y a = d) := by
  rcases pickN_is (w := w) hv a (Nat.le_refl _) with ⟨e, x, x', h1, h2, h3, h4, h5⟩ | ⟨e, h1⟩ | ⟨h1, h2, h3, x, h4, h5, h6⟩
  · rw [e]
    constructor
    · intro h
      exfalso
      rcases h x h1 with q | q
      · exact h3 q.symm
      · rcases h x' h2 with q' | q'
        · exact h4 q'.symm
        · exact h5 (q.symm.trans q')
    · omega
  · rw [e]
    exact ⟨fun _ => .inl rfl, fun _ x hx => .inl (h1 x hx).symm⟩
  · constructor
    · intro h
      right
      refine ⟨h1, ?_⟩
      rcases h x h4 with q | q
      · exact absurd q.symm h5
      · rw [q, h6]
    · rintro (q | ⟨_, q⟩)
      · omega
      · intro x hx
        by_cases e : cs.getD (y * a + x) 0 = w.getD x 0
        · exact .inl e.symm
        · right; rw [← q]; exact (h3 x hx e).symm
theorem pickN_le (hv : ∀ x, x < a → 0 ≤ cs.getD (y * a + x) 0 ∧ cs.getD (y * a + x) 0 ≤ 15) : -2 ≤ pickN cs a w y a ∧ pickN cs a w y a ≤ 15 := by
  rcases pickN_is (w := w) hv a (Nat.le_refl _) with ⟨e, _⟩ | ⟨e, _⟩ | ⟨h1, h2, _⟩ <;> omega
end
/-- The picks with these warp colours. -/
def picksL (cs : List Int) (a : Nat) (w : List Int) (k : Nat) : List Int := (List.range k).map fun y => max (pickN cs a w y a) 0
def PicksOk (cs : List Int) (a b : Nat) (w : List Int) : Prop := ∀ y, y < b → pickN cs a w y a ≠ -2
theorem picksL_succ (cs : List Int) (a : Nat) (w : List Int) (k : Nat) : picksL cs a w (k + 1) = picksL cs a w k ++ [max (pickN cs a w k a) 0] := by
  unfold picksL; rw [List.range_succ, List.map_append]; rfl
theorem picksL_len (cs : List Int) (a : Nat) (w : List Int) (k : Nat) : (picksL cs a w k).length = k := by simp [picksL]
theorem picksL_at {cs : List Int} {a : Nat} {w : List Int} {k y : Nat} (h : y < k) : (picksL cs a w k).getD y 0 = max (pickN cs a w y a) 0 := by
  unfold picksL
  rw [List.getD_eq_getElem?_getD, List.getElem?_map, List.getElem?_range h]; rfl

/-! A valid image's cells. -/
def Val (a b : Nat) (cs : List Int) : Prop := ∀ x y, x < a → y < b → (0 ≤ cs.getD (y * a + x) 0 ∧ cs.getD (y * a + x) 0 ≤ 15) ∧ cs.getD (y * a + x) 0 ∈ cs
def FW (w : List Int) (Q : Nat → Int) : Nat → Nat → Int := fun k i => if k = 0 then w.getD i 0 else Q i
section
variable {cs : List Int} {a b : Nat} {w : List Int}
theorem n2_0 : N2 a b 0 = a := rfl
theorem n2_1 : N2 a b 1 = b := rfl
/-- Warp colours with which some weft colours fit: the picks say so. -/
theorem fits_picks (hV : Val a b cs) (hw : ∀ x, x < a → 0 ≤ w.getD x 0 ∧ w.getD x 0 ≤ 15) (Q : Nat → Int) (hQ : ∀ y, y < b → 0 ≤ Q y ∧ Q y ≤ 15) : FitF (N2 a b) (M2 a cs) (FW w Q) ↔ ∀ y, y < b → pickN cs a w y a = -1 ∨ (0 ≤ pickN cs a w y a ∧ pickN cs a w y a = Q y) := by
  constructor
  · intro h y hy
    exact (pickN_fits (fun x hx => (hV x y hx hy).1) (Q y)).1 fun x hx => h.fit x y hx hy
  · intro h
    refine ⟨fun x y hx hy => (pickN_fits (fun x hx => (hV x y hx hy).1) (Q y)).2 (h y hy) x hx, fun k i hk hi => ?_⟩
    unfold FW
    by_cases e : k = 0
    · subst e; rw [if_pos rfl]; exact hw i hi
    · rw [if_neg e]
      obtain rfl : k = 1 := by omega
      exact hQ i hi
/-- Any fit, with its warp colours drawn into the palette. -/
theorem pal_fit (hV : Val a b cs) {F : Nat → Nat → Int} (hF : FitF (N2 a b) (M2 a cs) F) : ∃ l, l.length = a ∧ Dig (pal cs).length l ∧ FitF (N2 a b) (M2 a cs) (FW (colL (pal cs) l) (F 1)) ∧
    ∀ x, x < a → (colL (pal cs) l).getD x 0 ≤ F 0 x ∧ (F 0 x ∈ cs → (colL (pal cs) l).getD x 0 = F 0 x) ∧ (F 0 x ∉ cs → (colL (pal cs) l).getD x 0 ∉ cs) := by
  have hc : ∀ x, ∃ c : Int, x < a → c ∈ pal cs ∧ c ≤ F 0 x ∧ (F 0 x ∈ cs → c = F 0 x) ∧ (F 0 x ∉ cs → c ∉ cs) := fun x => by
    by_cases hx : x < a
    · have h1 := hF.val 0 x (by omega) hx
      by_cases h2 : F 0 x ∈ pal cs
      · exact ⟨F 0 x, fun _ => ⟨h2, Int.le_refl _, fun _ => rfl, fun h => h⟩⟩
      · obtain ⟨o, q1, q2, q3⟩ := pal_other h1.1 h1.2 h2
        exact ⟨o, fun _ => ⟨q1, Int.le_of_lt q2, fun q => absurd ((mem_pal _).2 ⟨h1.1, by omega, .inl q⟩) h2, fun _ => q3⟩⟩
    · exact ⟨0, fun h => absurd h hx⟩
  obtain ⟨c, hc⟩ := Classical.axiomOfChoice hc
  have hi : ∀ x, ∃ i : Nat, x < a → i < (pal cs).length ∧ (pal cs).getD i 0 = c x := fun x => by
    by_cases hx : x < a
    · obtain ⟨i, h1, h2⟩ := List.getElem_of_mem (hc x hx).1
      exact ⟨i, fun _ => ⟨h1, by rw [List.getD_eq_getElem?_getD, List.getElem?_eq_getElem h1]; exact h2⟩⟩
    · exact ⟨0, fun h => absurd h hx⟩
  obtain ⟨i, hi⟩ := Classical.axiomOfChoice hi
  have hl : ((List.range a).map fun x => ((i x : Nat) : Int)).length = a := by simp
  have hat : ∀ x, x < a → (colL (pal cs) ((List.range a).map fun x => ((i x : Nat) : Int))).getD x 0 = c x := fun x hx => by
    rw [colL_at (by rw [hl]; exact hx), show ((List.range a).map fun x => ((i x : Nat) : Int)).getD x 0 = ((i x : Nat) : Int) by rw [List.getD_eq_getElem?_getD, List.getElem?_map, List.getElem?_range hx]; rfl]
    exact (hi x hx).2
  refine ⟨(List.range a).map fun x => ((i x : Nat) : Int), hl, ?_, ⟨fun x y hx hy => ?_, fun k j hk hj => ?_⟩, fun x hx => ?_⟩
  · intro d hd
    obtain ⟨x, hx, rfl⟩ := List.mem_map.1 hd
    have := (hi x (List.mem_range.1 hx)).1
    omega
  · show (colL _ _).getD x 0 = _ ∨ F 1 y = _
    rw [hat x hx]
    have h1 := hV x y hx hy
    rcases hF.fit x y hx hy with h2 | h2
    · left
      rw [(hc x hx).2.2.1 (by rw [h2]; exact h1.2)]
      exact h2
    · exact .inr h2
  · unfold FW
    by_cases e : k = 0
    · subst e
      rw [if_pos rfl, hat j hj]
      have := (mem_pal _).1 (hc j hj).1
      omega
    · rw [if_neg e]
      obtain rfl : k = 1 := by omega
      exact hF.val 1 j hk hj
  · rw [hat x hx]
    exact (hc x hx).2
theorem colL_rng {l : List Int} (hl : Dig (pal cs).length l) {x : Nat} (hx : x < l.length) : (colL (pal cs) l).getD x 0 ∈ pal cs := by
  rw [colL_at hx]
  have h1 := hl.at hx
  have h2 : (l.getD x 0).toNat < (pal cs).length := by omega
  rw [List.getD_eq_getElem?_getD (l := pal cs), List.getElem?_eq_getElem h2]
  exact List.getElem_mem h2
theorem colL_val {l : List Int} (hl : Dig (pal cs).length l) {x : Nat} (hx : x < l.length) : 0 ≤ (colL (pal cs) l).getD x 0 ∧ (colL (pal cs) l).getD x 0 ≤ 15 := by
  have := (mem_pal _).1 (colL_rng hl hx)
  omega
end
theorem first_diff (f g : Nat → Int) : ∀ N, (∀ i, i < N → f i ≤ g i) → (∀ i, i < N → g i = f i) ∨ ∃ j, j < N ∧ f j < g j ∧ ∀ i, i < j → g i = f i
  | 0, _ => .inl fun i hi => by omega
  | N + 1, h => by
    rcases first_diff f g N (fun i hi => h i (by omega)) with h1 | ⟨j, h1, h2, h3⟩
    · by_cases e : g N = f N
      · left
        intro i hi
        by_cases e2 : i = N
        · subst e2; exact e
        · exact h1 i (by omega)
      · exact .inr ⟨N, by omega, by have := h N (by omega); omega, h1⟩
    · exact .inr ⟨j, by omega, h2, h3⟩

/-! What First returns: the least fit, or none. -/
def FirstR (a b : Nat) (cs p q : List Int) (e : Int) : Prop :=
  (e = 0 ∧ p.length = a ∧ q.length = b ∧ FitF (N2 a b) (M2 a cs) (F2 p q) ∧ ∀ F, FitF (N2 a b) (M2 a cs) F → LexLe (N2 a b) 2 0 (F2 p q) F) ∨ (e = 6 ∧ p = [] ∧ q = [] ∧ ¬ ∃ F, FitF (N2 a b) (M2 a cs) F)
section
variable {cs p q p' q' : List Int} {a b : Nat} {e e' : Int}
theorem f2_0 {x : Nat} (h : x < p.length) : F2 p q 0 x = p.getD x 0 := by
  unfold F2; rw [if_pos rfl, List.getD_eq_getElem?_getD, List.getD_eq_getElem?_getD, List.getElem?_eq_getElem h]; rfl
theorem f2_1 {y : Nat} (h : y < q.length) : F2 p q 1 y = q.getD y 0 := by
  unfold F2; rw [if_neg (by omega), if_pos rfl, List.getD_eq_getElem?_getD, List.getD_eq_getElem?_getD, List.getElem?_eq_getElem h]; rfl
theorem ext_getD {l l' : List Int} (hl : l.length = l'.length) (h : ∀ i, i < l.length → l.getD i 0 = l'.getD i 0) : l = l' := by
  refine List.ext_getElem hl fun i h1 h2 => ?_
  have := h i h1
  rw [List.getD_eq_getElem?_getD, List.getD_eq_getElem?_getD, List.getElem?_eq_getElem h1, List.getElem?_eq_getElem h2] at this
  exact this
theorem FirstR.unique (h : FirstR a b cs p q e) (h' : FirstR a b cs p' q' e') : p = p' ∧ q = q' ∧ e = e' := by
  rcases h with ⟨rfl, h1, h2, h3, h4⟩ | ⟨rfl, rfl, rfl, h1⟩
  · rcases h' with ⟨rfl, h1', h2', h3', h4'⟩ | ⟨rfl, rfl, rfl, h1'⟩
    · have hu := lex_unique (h4 _ h3') (h4' _ h3)
      refine ⟨ext_getD (h1.trans h1'.symm) fun i hi => ?_, ext_getD (h2.trans h2'.symm) fun i hi => ?_, rfl⟩
      · have := hu 0 i (by omega) (by rw [n2_0]; omega)
        rw [f2_0 hi, f2_0 (by omega)] at this
        exact this.symm
      · have := hu 1 i (by omega) (by rw [n2_1]; omega)
        rw [f2_1 hi, f2_1 (by omega)] at this
        exact this.symm
    · exact absurd ⟨_, h3⟩ h1'
  · rcases h' with ⟨rfl, h1', h2', h3', h4'⟩ | ⟨rfl, rfl, rfl, h1'⟩
    · exact absurd ⟨_, h3'⟩ h1
    · exact ⟨rfl, rfl, rfl⟩
/-- All lists of indices below this one were tried in vain. -/
def Tried (a b : Nat) (cs l : List Int) : Prop := ∀ l', l'.length = a → Dig (pal cs).length l' → valN (pal cs).length l' < valN (pal cs).length l → ¬ PicksOk cs a b (colL (pal cs) l')
theorem Tried.start : Tried a b cs (List.replicate a 0) := fun l' h1 h2 h3 => by
  rw [valN_zeros (l := List.replicate a 0) (fun i hi => by rw [List.getD_eq_getElem?_getD, List.getElem?_eq_getElem hi]; simp)] at h3
  have := (valN_lt h2).1
  omega
theorem Tried.next {l l2 : List Int} (h : Tried a b cs l) (hl : l.length = a) (hd : Dig (pal cs).length l) (hno : ¬ PicksOk cs a b (colL (pal cs) l)) (hv : valN (pal cs).length l2 = valN (pal cs).length l + 1) : Tried a b cs l2 := fun l' h1 h2 h3 => by
  by_cases e : valN (pal cs).length l' = valN (pal cs).length l
  · rw [valN_inj h2 hd (h1.trans hl.symm) e]; exact hno
  · exact h l' h1 h2 (by omega)
theorem picks_of_fit {F : Nat → Nat → Int} (hV : Val a b cs) {l : List Int} (hl : l.length = a) (hd : Dig (pal cs).length l) (h : FitF (N2 a b) (M2 a cs) (FW (colL (pal cs) l) (F 1))) : PicksOk cs a b (colL (pal cs) l) := fun y hy => by
  have hQ : ∀ y, y < b → 0 ≤ F 1 y ∧ F 1 y ≤ 15 := fun y hy => h.val 1 y (by omega) hy
  have := (fits_picks hV (fun x hx => colL_val hd (by omega)) (F 1) hQ).1 h y hy
  omega
theorem Tried.last {l : List Int} (hV : Val a b cs) (h : Tried a b cs l) (hl : l.length = a) (hd : Dig (pal cs).length l) (hno : ¬ PicksOk cs a b (colL (pal cs) l)) (hv : valN (pal cs).length l + 1 = (((pal cs).length ^ a : Nat) : Int)) : FirstR a b cs [] [] 6 := by
  refine .inr ⟨rfl, rfl, rfl, fun ⟨F, hF⟩ => ?_⟩
  obtain ⟨l', q1, q2, q3, _⟩ := pal_fit hV hF
  have h1 := (valN_lt q2).2
  rw [q1] at h1
  have hok := picks_of_fit hV q1 q2 q3
  by_cases e : valN (pal cs).length l' = valN (pal cs).length l
  · rw [valN_inj q2 hd (q1.trans hl.symm) e] at hok
    exact hno hok
  · exact h l' q1 q2 (by omega) hok
theorem fw_f2 {w : List Int} (hw : w.length = a) {k i : Nat} (hk : k < 2) (hi : i < N2 a b k) (cs : List Int) : FW w (fun y => (picksL cs a w b).getD y 0) k i = F2 w (picksL cs a w b) k i := by
  rcases (show k = 0 ∨ k = 1 by omega) with rfl | rfl
  · rw [f2_0 (by rw [hw]; exact hi)]; rfl
  · rw [f2_1 (by rw [picksL_len]; exact hi)]; rfl
theorem FitF.congr {n : Nat → Nat} {m : Nat → Nat → Nat → Int} {f g : Nat → Nat → Int} (h : FitF n m f) (he : ∀ k i, k < 2 → i < n k → f k i = g k i) : FitF n m g :=
  ⟨fun x y hx hy => by rw [← he 0 x (by omega) hx, ← he 1 y (by omega) hy]; exact h.fit x y hx hy, fun k i hk hi => by rw [← he k i hk hi]; exact h.val k i hk hi⟩
/-- Picks that fit: a fit. -/
theorem picks_fit (hV : Val a b cs) {l : List Int} (hl : l.length = a) (hd : Dig (pal cs).length l) (hok : PicksOk cs a b (colL (pal cs) l)) : FitF (N2 a b) (M2 a cs) (F2 (colL (pal cs) l) (picksL cs a (colL (pal cs) l) b)) := by
  have hw : (colL (pal cs) l).length = a := by rw [colL_len]; exact hl
  refine FitF.congr ((fits_picks hV (fun x hx => colL_val hd (by omega)) (fun y => (picksL cs a (colL (pal cs) l) b).getD y 0) fun y hy => ?_).2 fun y hy => ?_) (fun k i hk hi => fw_f2 hw hk hi cs)
  · simp only [picksL_at hy]
    have := (pickN_le (w := colL (pal cs) l) fun x hx => (hV x y hx hy).1)
    omega
  · simp only [picksL_at hy]
    have h1 := (pickN_le (w := colL (pal cs) l) fun x hx => (hV x y hx hy).1)
    have h2 := hok y hy
    omega
theorem Tried.done {l : List Int} (hV : Val a b cs) (h : Tried a b cs l) (hl : l.length = a) (hd : Dig (pal cs).length l) (hok : PicksOk cs a b (colL (pal cs) l)) : FirstR a b cs (colL (pal cs) l) (picksL cs a (colL (pal cs) l) b) 0 := by
  have hw : (colL (pal cs) l).length = a := by rw [colL_len]; exact hl
  have hq : (picksL cs a (colL (pal cs) l) b).length = b := picksL_len _ _ _ _
  refine .inl ⟨rfl, hw, hq, picks_fit hV hl hd hok, fun F hF => ?_⟩
  obtain ⟨l', q1, q2, q3, q4⟩ := pal_fit hV hF
  have hok' := picks_of_fit hV q1 q2 q3
  have hle : valN (pal cs).length l ≤ valN (pal cs).length l' := by
    rcases Int.lt_or_le (valN (pal cs).length l') (valN (pal cs).length l) with hlt | hle
    · exact absurd hok' (h l' q1 q2 hlt)
    · exact hle
  rcases valN_lex hd q2 (hl.trans q1.symm) hle with e | ⟨j, hj, hlt, ha⟩
  · subst e
    have hp0 : ∀ x, x < a → (colL (pal cs) l).getD x 0 ≤ F 0 x := fun x hx => (q4 x hx).1
    rcases first_diff (fun x => (colL (pal cs) l).getD x 0) (F 0) a hp0 with h1 | ⟨j, h1, h2, h3⟩
    · have hq0 : ∀ y, y < b → (picksL cs a (colL (pal cs) l) b).getD y 0 ≤ F 1 y := fun y hy => by
        rw [picksL_at hy]
        have hF1 := hF.val 1 y (by omega) hy
        have := (fits_picks hV (fun x hx => colL_val hd (by omega)) (F 1) (fun y hy => hF.val 1 y (by omega) hy)).1 q3 y hy
        omega
      rcases first_diff (fun y => (picksL cs a (colL (pal cs) l) b).getD y 0) (F 1) b hq0 with g1 | ⟨j, g1, g2, g3⟩
      · refine .inl fun k i hk hi _ => ?_
        rcases (show k = 0 ∨ k = 1 by omega) with rfl | rfl
        · rw [f2_0 (by rw [hw]; exact hi)]; exact h1 i hi
        · rw [f2_1 (by rw [hq]; exact hi)]; exact g1 i hi
      · refine .inr ⟨1, j, by omega, g1, .inl (by omega), by rw [f2_1 (by rw [hq]; exact g1)]; exact g2, fun k i hk hi hb => ?_⟩
        rcases hb with hb | ⟨rfl, hb⟩
        · obtain rfl : k = 0 := by omega
          rw [f2_0 (by rw [hw]; exact hi)]; exact h1 i hi
        · rw [f2_1 (by rw [hq]; exact hi)]; exact g3 i hb
    · refine .inr ⟨0, j, by omega, h1, .inl (by omega), by rw [f2_0 (by rw [hw]; exact h1)]; exact h2, fun k i hk hi hb => ?_⟩
      rcases hb with hb | ⟨rfl, hb⟩
      · omega
      · rw [f2_0 (by rw [hw]; exact hi)]; exact h3 i hb
  · have hjl : j < l'.length := by omega
    have hlt2 : (colL (pal cs) l).getD j 0 < (colL (pal cs) l').getD j 0 := by
      rw [colL_at hj, colL_at hjl]
      have h1 := hd.at hj
      have h2 := q2.at hjl
      exact pal_lt (by omega) (by omega)
    have heq : ∀ i, i < j → (colL (pal cs) l).getD i 0 = (colL (pal cs) l').getD i 0 := fun i hi => by
      rw [colL_at (by omega), colL_at (by omega), ha i hi]
    have hp0 : ∀ x, x < j + 1 → (colL (pal cs) l).getD x 0 ≤ F 0 x := fun x hx => by
      by_cases e : x = j
      · subst e
        have := (q4 x (by omega)).1
        omega
      · rw [heq x (by omega)]
        exact (q4 x (by omega)).1
    rcases first_diff (fun x => (colL (pal cs) l).getD x 0) (F 0) (j + 1) hp0 with h1 | ⟨i, h1, h2, h3⟩
    · exfalso
      have g1 := h1 j (by omega)
      have g2 := (q4 j (by omega)).1
      omega
    · refine .inr ⟨0, i, by omega, by rw [n2_0]; omega, .inl (by omega), by rw [f2_0 (by rw [hw]; omega)]; exact h2, fun k i' hk hi hb => ?_⟩
      rcases hb with hb | ⟨rfl, hb⟩
      · omega
      · rw [f2_0 (by rw [hw]; exact hi)]; exact h3 i' hb
end

/-! The choices of a thread. -/
def Ch (a b : Nat) (cs : List Int) (k i : Nat) (c : Int) : Prop := ∃ F, FitF (N2 a b) (M2 a cs) F ∧ F k i = c
section
variable {cs : List Int} {a b : Nat}
/-- A choice of an end, by the palette's lists. -/
theorem ch_end (hV : Val a b cs) {x : Nat} (hx : x < a) {c : Int} (h0 : 0 ≤ c) (h15 : c ≤ 15) : Ch a b cs 0 x c ↔ ∃ l, l.length = a ∧ Dig (pal cs).length l ∧ PicksOk cs a b (colL (pal cs) l) ∧ ((colL (pal cs) l).getD x 0 = c ∨ ((colL (pal cs) l).getD x 0 ∉ cs ∧ c ∉ cs)) := by
  constructor
  · rintro ⟨F, hF, he⟩
    obtain ⟨l, q1, q2, q3, q4⟩ := pal_fit hV hF
    refine ⟨l, q1, q2, picks_of_fit hV q1 q2 q3, ?_⟩
    have := q4 x hx
    rw [he] at this
    by_cases hm : c ∈ cs
    · exact .inl (this.2.1 hm)
    · exact .inr ⟨this.2.2 hm, hm⟩
  · rintro ⟨l, q1, q2, q3, q4⟩
    have hF := picks_fit hV q1 q2 q3
    have hw : (colL (pal cs) l).length = a := by rw [colL_len]; exact q1
    rcases q4 with e | ⟨e1, e2⟩
    · exact ⟨_, hF, by rw [f2_0 (by rw [hw]; exact hx)]; exact e⟩
    · refine ⟨putF (F2 (colL (pal cs) l) (picksL cs a (colL (pal cs) l) b)) 0 x c, ⟨fun x' y hx' hy => ?_, fun k i hk hi => ?_⟩, putF_same⟩
      · rw [putF_other (k' := 1) (by omega)]
        by_cases e : x' = x
        · subst e
          rcases hF.fit x' y hx' hy with h1 | h1
          · exfalso
            rw [f2_0 (by rw [hw]; exact hx')] at h1
            exact e1 (by rw [h1]; exact (hV x' y hx' hy).2)
          · exact .inr h1
        · rw [putF_other (by omega)]
          exact hF.fit x' y hx' hy
      · by_cases e : k = 0 ∧ i = x
        · obtain ⟨rfl, rfl⟩ := e
          rw [putF_same]; exact ⟨h0, h15⟩
        · rw [putF_other e]; exact hF.val k i hk hi
/-- A choice of a pick. -/
theorem ch_pick (hV : Val a b cs) {y : Nat} (hy : y < b) {c : Int} (h0 : 0 ≤ c) (h15 : c ≤ 15) : Ch a b cs 1 y c ↔ ∃ l, l.length = a ∧ Dig (pal cs).length l ∧ PicksOk cs a b (colL (pal cs) l) ∧ (pickN cs a (colL (pal cs) l) y a < 0 ∨ pickN cs a (colL (pal cs) l) y a = c) := by
  constructor
  · rintro ⟨F, hF, he⟩
    obtain ⟨l, q1, q2, q3, q4⟩ := pal_fit hV hF
    refine ⟨l, q1, q2, picks_of_fit hV q1 q2 q3, ?_⟩
    have := (fits_picks hV (fun x hx => colL_val q2 (by omega)) (F 1) (fun y hy => hF.val 1 y (by omega) hy)).1 q3 y hy
    rw [he] at this
    omega
  · rintro ⟨l, q1, q2, q3, q4⟩
    have hF := picks_fit hV q1 q2 q3
    have hw : (colL (pal cs) l).length = a := by rw [colL_len]; exact q1
    have h2 := q3 y hy
    have h3 := pickN_le (w := colL (pal cs) l) fun x hx => (hV x y hx hy).1
    refine ⟨putF (F2 (colL (pal cs) l) (picksL cs a (colL (pal cs) l) b)) 1 y c, ⟨fun x y' hx hy' => ?_, fun k i hk hi => ?_⟩, putF_same⟩
    · rw [putF_other (k' := 0) (by omega)]
      by_cases e : y' = y
      · subst e
        rw [putF_same, f2_0 (by rw [hw]; exact hx)]
        exact (pickN_fits (w := colL (pal cs) l) (fun x hx => (hV x y' hx hy').1) c).2 (by omega) x hx
      · rw [putF_other (by omega)]
        exact hF.fit x y' hx hy'
    · by_cases e : k = 1 ∧ i = y
      · obtain ⟨rfl, rfl⟩ := e
        rw [putF_same]; exact ⟨h0, h15⟩
      · rw [putF_other e]; exact hF.val k i hk hi
/-- The choices of the exchanged image. -/
theorem ch_turn {ds : List Int} (ht : ∀ x y, x < a → y < b → ds.getD (x * b + y) 0 = cs.getD (y * a + x) 0) (k i : Nat) (hk : k < 2) (c : Int) : Ch a b cs k i c → Ch b a ds (1 - k) i c := fun ⟨F, hF, he⟩ => by
  refine ⟨fun k i => F (1 - k) i, ⟨fun y x hy hx => ?_, fun k i hk hi => ?_⟩, by show F (1 - (1 - k)) i = c; rw [show 1 - (1 - k) = k by omega]; exact he⟩
  · have h1 := hF.fit x y hx hy
    have h2 := ht x y hx hy
    show F 1 y = ds.getD (x * b + y) 0 ∨ F 0 x = ds.getD (x * b + y) 0
    rw [h2]
    exact h1.symm
  · refine hF.val (1 - k) i (by omega) ?_
    rcases (show k = 0 ∨ k = 1 by omega) with rfl | rfl
    · exact hi
    · exact hi
open Classical in
/-- The choices of a thread, in increasing order. -/
noncomputable def chL (a b : Nat) (cs : List Int) (k i : Nat) (n : Nat) : List Int := ((List.range n).filter fun (c : Nat) => decide (Ch a b cs k i (c : Int))).map fun (c : Nat) => (c : Int)
theorem chL_zero (k i : Nat) : chL a b cs k i 0 = [] := rfl
open Classical in
theorem chL_succ (k i n : Nat) : chL a b cs k i (n + 1) = chL a b cs k i n ++ (if Ch a b cs k i n then [(n : Int)] else []) := by
  unfold chL
  rw [List.range_succ, List.filter_append, List.map_append]
  congr 1
  by_cases h : Ch a b cs k i (n : Int)
  · simp [h]
  · simp [h]
theorem chL_yes {k i n : Nat} (h : Ch a b cs k i n) : chL a b cs k i (n + 1) = chL a b cs k i n ++ [(n : Int)] := by rw [chL_succ, if_pos h]
theorem chL_no {k i n : Nat} (h : ¬ Ch a b cs k i n) : chL a b cs k i (n + 1) = chL a b cs k i n := by rw [chL_succ, if_neg h, List.append_nil]
theorem mem_chL {k i n : Nat} {c : Int} : c ∈ chL a b cs k i n ↔ 0 ≤ c ∧ c < n ∧ Ch a b cs k i c := by
  unfold chL
  simp only [List.mem_map, List.mem_filter, List.mem_range, decide_eq_true_eq]
  constructor
  · rintro ⟨d, ⟨h1, h2⟩, rfl⟩
    exact ⟨by omega, by omega, h2⟩
  · rintro ⟨h1, h2, h3⟩
    refine ⟨c.toNat, ⟨by omega, ?_⟩, by omega⟩
    rw [show ((c.toNat : Nat) : Int) = c by omega]; exact h3
theorem chL_inc (k i n : Nat) : (chL a b cs k i n).Pairwise (· < ·) := by
  induction n with
  | zero => simp [chL]
  | succ n ih =>
    by_cases h : Ch a b cs k i n
    · rw [chL_yes h, List.pairwise_append]
      refine ⟨ih, by simp, fun x hx y hy => ?_⟩
      rw [List.mem_singleton] at hy
      have := mem_chL.1 hx
      omega
    · rw [chL_no h]; exact ih
theorem chL_len (k i n : Nat) : (chL a b cs k i n).length ≤ n := by
  unfold chL
  rw [List.length_map]
  exact Nat.le_trans (List.length_filter_le _ _) (by simp)
theorem chL_congr {a' b' : Nat} {ds : List Int} {k i k' i' n : Nat} (h : ∀ c : Int, 0 ≤ c → c < n → (Ch a b cs k i c ↔ Ch a' b' ds k' i' c)) : chL a b cs k i n = chL a' b' ds k' i' n := by
  induction n with
  | zero => rfl
  | succ n ih =>
    have ih := ih fun c h1 h2 => h c h1 (by omega)
    have h1 := h (n : Int) (by omega) (by omega)
    by_cases hc : Ch a b cs k i n
    · rw [chL_yes hc, chL_yes (h1.1 hc), ih]
    · rw [chL_no hc, chL_no (fun q => hc (h1.2 q)), ih]
end
end Go.Proofs.Ytmajmbfbnchbfaa
