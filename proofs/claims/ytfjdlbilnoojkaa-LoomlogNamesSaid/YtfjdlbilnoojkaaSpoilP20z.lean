/- Lifts with a fault, plain. Nothing here names a function of the program. -/
import Derived.Test.YtfjdlbilnoojkaaFindP20z
import Derived.Test.YtfjdlbilnoojkaaConcatBz
namespace Go.Proofs.Ytfjdlbilnoojkaa
open Go.RowKit

/-- What Spoil answers. -/
def spoilG (W H : Int) (bs : List Bool) (q k : Int) (lift : List Bool) : Gd × Int :=
  if chkP W H bs.length ≠ 0 then (Gd.zero, chkP W H bs.length) else if 3 < q then (Gd.zero, 8) else if k < 0 ∨ H ≤ k ∨ (q = 0 ∧ k ≠ 0) then (Gd.zero, 2)
  else if q = 3 ∧ (lift.length : Int) ≠ W then (Gd.zero, 26)
  else if chkP W (spoiltL (rowsB W.toNat H.toNat bs) q k.toNat lift).length (spoiltL (rowsB W.toNat H.toNat bs) q k.toNat lift).flatten.length ≠ 0
    then (Gd.zero, chkP W (spoiltL (rowsB W.toNat H.toNat bs) q k.toNat lift).length (spoiltL (rowsB W.toNat H.toNat bs) q k.toNat lift).flatten.length)
    else (liftsG W (spoiltL (rowsB W.toNat H.toNat bs) q k.toNat lift), 0)
section
variable {W H : Int} {bs : List Bool} {q k : Int} {lift : List Bool}
theorem spoilG_1 (h : chkP W H bs.length ≠ 0) : spoilG W H bs q k lift = (Gd.zero, chkP W H bs.length) := by unfold spoilG; rw [if_pos h]
theorem spoilG_2 (h : chkP W H bs.length = 0) (h2 : 3 < q) : spoilG W H bs q k lift = (Gd.zero, 8) := by unfold spoilG; rw [if_neg (by simpa using h), if_pos h2]
theorem spoilG_3 (h : chkP W H bs.length = 0) (h2 : ¬ 3 < q) (h3 : k < 0 ∨ H ≤ k ∨ (q = 0 ∧ k ≠ 0)) : spoilG W H bs q k lift = (Gd.zero, 2) := by unfold spoilG; rw [if_neg (by simpa using h), if_neg h2, if_pos h3]
theorem spoilG_4 (h : chkP W H bs.length = 0) (h2 : ¬ 3 < q) (h3 : ¬ (k < 0 ∨ H ≤ k ∨ (q = 0 ∧ k ≠ 0))) (h4 : q = 3 ∧ (lift.length : Int) ≠ W) : spoilG W H bs q k lift = (Gd.zero, 26) := by
  unfold spoilG; rw [if_neg (by simpa using h), if_neg h2, if_neg h3, if_pos h4]
theorem spoilG_5 {a h n : Nat} (hc : chkP a h bs.length = 0) (h2 : ¬ 3 < q) (h3 : ¬ ((n : Int) < 0 ∨ (h : Int) ≤ n ∨ (q = 0 ∧ (n : Int) ≠ 0))) (h4 : ¬ (q = 3 ∧ (lift.length : Int) ≠ a)) {P : List (List Bool)} (hP : spoiltL (rowsB a h bs) q n lift = P) :
    (chkP a P.length P.flatten.length ≠ 0 → spoilG a h bs q n lift = (Gd.zero, chkP a P.length P.flatten.length)) ∧ (chkP a P.length P.flatten.length = 0 → spoilG a h bs q n lift = (liftsG a P, 0)) := by
  subst hP
  unfold spoilG
  rw [if_neg (by simpa using hc), if_neg h2, if_neg h3, if_neg h4]
  constructor
  · intro h5; exact if_pos h5
  · intro h5; exact if_neg (by simpa using h5)
end
/-- What the first y picks become. -/
def SProw (l : List (List Bool)) (q : Int) (k : Nat) (lift : List Bool) (z : Nat) : List (List Bool) :=
  if z = k then (if q = 1 then [] else if q = 2 then [l.getD z [], l.getD z []] else if q = 3 then [lift] else [l.getD z []]) else [l.getD z []]
def SPto (l : List (List Bool)) (q : Int) (k : Nat) (lift : List Bool) : Nat → List (List Bool)
  | 0 => []
  | y + 1 => SPto l q k lift y ++ SProw l q k lift y
theorem take_getD {l : List (List Bool)} {y : Nat} (h : y < l.length) : l.take (y + 1) = l.take y ++ [l.getD y []] := take_snoc (getD_of h)
theorem SPto_low {l : List (List Bool)} {q : Int} {k : Nat} {lift : List Bool} : ∀ {y : Nat}, y ≤ k → y ≤ l.length → SPto l q k lift y = l.take y
  | 0, _, _ => rfl
  | y + 1, h, h2 => by
    unfold SPto
    rw [SPto_low (by omega) (by omega), take_getD (by omega)]
    unfold SProw
    rw [if_neg (by omega)]
theorem SPto_high {l : List (List Bool)} {q : Int} {k : Nat} {lift : List Bool} : ∀ {y : Nat}, k < y → y ≤ l.length → SPto l q k lift y = spoiltL (l.take y) q k lift
  | 0, h, _ => absurd h (by omega)
  | y + 1, h, h2 => by
    unfold SPto
    by_cases hy : y = k
    · subst hy
      have hX : (l.take y).length = y := by rw [List.length_take]; omega
      rw [SPto_low (Nat.le_refl _) (by omega), take_getD (by omega)]
      unfold SProw spoiltL
      rw [if_pos rfl]
      have e1 : (l.take y ++ [l.getD y []]).take y = l.take y := by rw [List.take_append_of_le_length (by omega), List.take_of_length_le (by omega)]
      have e2 : (l.take y ++ [l.getD y []]).drop y = [l.getD y []] := by rw [List.drop_append, List.drop_eq_nil_of_le (by omega), hX, Nat.sub_self]; rfl
      have e3 : (l.take y ++ [l.getD y []]).drop (y + 1) = [] := List.drop_eq_nil_of_le (by rw [List.length_append, hX]; simp)
      have e4 : (l.take y ++ [l.getD y []]).getD y [] = l.getD y [] := by rw [List.getD_eq_getElem?_getD, List.getElem?_append_right (by omega), hX, Nat.sub_self]; rfl
      have e5 : (l.take y ++ [l.getD y []]).set y lift = l.take y ++ [lift] := by rw [List.set_append_right _ _ (by omega), hX, Nat.sub_self]; rfl
      split
      · rw [e1, e3]
      · split
        · rw [e1, e2, e4]
        · split
          · rw [e5]
          · rfl
    · have hX : (l.take y).length = y := by rw [List.length_take]; omega
      rw [SPto_high (by omega) (by omega), take_getD (by omega)]
      unfold SProw
      rw [if_neg hy]
      generalize l.take y = X at hX
      generalize l.getD y [] = r
      unfold spoiltL
      have e1 : (X ++ [r]).take k = X.take k := List.take_append_of_le_length (by omega)
      have e2 : (X ++ [r]).drop (k + 1) = X.drop (k + 1) ++ [r] := List.drop_append_of_le_length (by omega)
      have e3 : (X ++ [r]).drop k = X.drop k ++ [r] := List.drop_append_of_le_length (by omega)
      have e4 : (X ++ [r]).getD k [] = X.getD k [] := by rw [List.getD_eq_getElem?_getD, List.getD_eq_getElem?_getD, List.getElem?_append_left (by omega)]
      have e5 : (X ++ [r]).set k lift = X.set k lift ++ [r] := List.set_append_left _ _ (by omega)
      split
      · rw [e1, e2, List.append_assoc]
      · split
        · rw [e1, e3, e4, List.append_assoc]; rfl
        · split
          · rw [e5]
          · rfl
theorem SPto_all {l : List (List Bool)} {q : Int} {k h : Nat} {lift : List Bool} (hk : k < h) (hl : l.length = h) : SPto l q k lift h = spoiltL l q k lift := by
  rw [SPto_high hk (by omega), List.take_of_length_le (by omega)]
end Go.Proofs.Ytfjdlbilnoojkaa
