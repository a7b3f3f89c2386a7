/- Rows and the cells of a grid, plain. Nothing here names a function of the program. -/
import Derived.Test.YtfjdlbilnoojkaaSpoilP20z
import Derived.Test.YtfjdlbilnoojkaaMendz
import Derived.Test.YtfjdlbilnoojkaaMg4z
namespace Go.Proofs.Ytfjdlbilnoojkaa
open Go.RowKit

theorem rowsB_flat2 : ∀ {a : Nat} {ps : List (List Bool)}, RowsN a ps → rowsB a ps.length ps.flatten = ps
  | a, [], _ => rfl
  | a, r :: ps, h => by
    have hr : r.length = a := h r (List.mem_cons_self ..)
    have ih := rowsB_flat2 (a := a) (ps := ps) (fun r' hr' => h r' (List.mem_cons_of_mem _ hr'))
    unfold rowsB at ih ⊢
    rw [List.length_cons, List.range_succ_eq_map, List.map_cons, List.map_map]
    congr 1
    · unfold rowB
      rw [Nat.zero_mul, List.drop_zero, List.flatten_cons, ← hr]
      exact List.take_left
    · refine Eq.trans (List.map_congr_left fun k _ => ?_) ih
      unfold rowB
      show ((r ++ ps.flatten).drop ((k + 1) * a)).take a = _
      rw [show (k + 1) * a = r.length + k * a by rw [Nat.succ_mul, hr, Nat.add_comm], List.drop_append, List.drop_eq_nil_of_le (Nat.le_add_right _ _), List.nil_append, Nat.add_sub_cancel_left]
theorem rows_tk20 (a : Nat) (bs : List Bool) : ∀ k, (rowsB a k bs).flatten = bs.take (k * a)
  | 0 => by rw [Nat.zero_mul]; rfl
  | k + 1 => by
    have h1 : rowsB a (k + 1) bs = rowsB a k bs ++ [rowB a bs k] := by unfold rowsB; rw [List.range_succ, List.map_append]; rfl
    rw [h1, List.flatten_append, rows_tk20 a bs k, List.flatten_singleton, Nat.succ_mul, List.take_add]
    rfl
theorem rows_flat {a h : Nat} {bs : List Bool} (hl : bs.length = h * a) : (rowsB a h bs).flatten = bs := by rw [rows_tk20, List.take_of_length_le (by omega)]
theorem liftsG_rows {a h : Nat} {bs : List Bool} (hl : bs.length = h * a) : liftsG a (rowsB a h bs) = ⟨a, h, bs⟩ := by unfold liftsG; rw [rowsB_len, rows_flat hl]
/-- Two grids of as many shafts are the same where their rows are. -/
theorem sameG_rows {a h : Nat} {bs : List Bool} {P : List (List Bool)} (hl : bs.length = h * a) (hP : RowsN a P) : sameG ⟨a, h, bs⟩ ⟨a, P.length, P.flatten⟩ = decide (rowsB a h bs = P) := by
  unfold sameG
  rw [decide_eq_decide]
  constructor
  · rintro ⟨_, h2, h3⟩
    simp only at h2 h3
    have h4 : h = P.length := by omega
    rw [h4, h3]
    exact rowsB_flat2 hP
  · intro e
    subst e
    rw [rowsB_len, rows_flat hl]
    exact ⟨rfl, rfl, rfl⟩
/-- What Spoil says of its arguments where it gives lifts. -/
theorem spoilG_zero {W H : Int} {bs : List Bool} {q k : Int} {lift : List Bool} (h : (spoilG W H bs q k lift).2 = 0) :
    chkP W H bs.length = 0 ∧ ¬ 3 < q ∧ ¬ (k < 0 ∨ H ≤ k ∨ (q = 0 ∧ k ≠ 0)) ∧ ¬ (q = 3 ∧ (lift.length : Int) ≠ W) ∧ chkP W (spoiltL (rowsB W.toNat H.toNat bs) q k.toNat lift).length (spoiltL (rowsB W.toNat H.toNat bs) q k.toNat lift).flatten.length = 0 := by
  unfold spoilG at h
  split at h
  · rename_i h1; exact absurd h h1
  · rename_i h1
    split at h
    · exact absurd h (by decide)
    · rename_i h2
      split at h
      · exact absurd h (by decide)
      · rename_i h3
        split at h
        · exact absurd h (by decide)
        · rename_i h4
          split at h
          · rename_i h5; exact absurd h h5
          · rename_i h5
            exact ⟨Classical.byContradiction h1, h2, h3, h4, Classical.byContradiction h5⟩
end Go.Proofs.Ytfjdlbilnoojkaa
