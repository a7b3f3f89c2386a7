/- What a mended log weaves, and what a log with a pick that is taken out at once weaves, plain. Nothing here names a function of the program. -/
import Derived.Test.YtfjdlbilnoojkaaMendz
namespace Go.Proofs.Ytfjdlbilnoojkaa
open Go.RowKit

/-- One event behind others. -/
def evF (s : Int × List (List Bool)) (e : Ev) : Int × List (List Bool) := if s.1 ≠ 0 then s else stepL s.2 e
theorem runL_app (l xs : List Ev) : runL (l ++ xs) = xs.foldl evF (runL l) := by unfold runL evF; rw [List.foldl_append]
theorem evF_zero (p : List (List Bool)) (e : Ev) : evF (0, p) e = stepL p e := rfl
theorem run_backs : ∀ (m : Nat) (p : List (List Bool)), m ≤ p.length → (List.replicate m ((2 : Int), ([] : List Bool))).foldl evF (0, p) = (0, p.take (p.length - m))
  | 0, p, _ => by simp
  | m + 1, p, h => by
    rw [List.replicate_succ, List.foldl_cons, evF_zero]
    have hp : p ≠ [] := by rintro rfl; simp at h
    have h1 : stepL p (2, []) = (0, p.dropLast) := by unfold stepL; rw [if_neg (by decide), if_pos rfl, if_neg hp]
    rw [h1, run_backs m p.dropLast (by rw [List.length_dropLast]; omega), List.length_dropLast, List.dropLast_eq_take, List.take_take]
    congr 2
    omega
theorem run_picks : ∀ (rs p : List (List Bool)), p.length + rs.length ≤ 64 → (rs.map fun r => ((1 : Int), r)).foldl evF (0, p) = (0, p ++ rs)
  | [], p, _ => by simp
  | r :: rs, p, h => by
    rw [List.length_cons] at h
    rw [List.map_cons, List.foldl_cons, evF_zero]
    have h1 : stepL p (1, r) = (0, p ++ [r]) := by unfold stepL; rw [if_pos rfl, if_neg (by omega)]
    rw [h1, run_picks rs (p ++ [r]) (by simp; omega), List.append_assoc]; rfl
theorem runL_mend {l : List Ev} {a p : List (List Bool)} (h : runL l = (0, p)) (ha : a.length ≤ 64) : runL (l ++ mendL a p) = (0, a) := by
  have hc := com_le a p
  unfold mendL mendTo
  rw [runL_app, h, List.foldl_append, run_backs _ _ (by omega), run_picks]
  · have h1 : (a.drop (comL a p)).take (a.length - comL a p) = a.drop (comL a p) := List.take_of_length_le (by rw [List.length_drop]; omega)
    rw [show p.length - (p.length - comL a p) = comL a p by omega, ← com_pre a p, h1, List.take_append_drop]
  · rw [List.length_take, List.length_take, List.length_drop]; omega
theorem mendL_len (a p : List (List Bool)) : (mendL a p).length = (p.length - comL a p) + (a.length - comL a p) := mendTo_len _ _ _
theorem mendL_ok {N : Nat} {a p : List (List Bool)} (ha : RowsN N a) : ∀ e ∈ mendL a p, evOk N e := by
  intro e he
  unfold mendL mendTo at he
  rcases List.mem_append.1 he with h | h
  · rw [List.eq_of_mem_replicate h]
    exact .inr ⟨.inl rfl, rfl⟩
  · obtain ⟨r, hr, rfl⟩ := List.mem_map.1 h
    have h1 := ha r (List.mem_of_mem_drop (List.mem_of_mem_take hr))
    exact .inl ⟨rfl, by show (r.length : Int) = N; omega⟩
theorem chkE_app {N : Int} {l xs : List Ev} (h : chkE N l = 0) (hl : l.length + xs.length ≤ 400) (hx : ∀ e ∈ xs, evOk N e) : chkE N (l ++ xs) = 0 := by
  obtain ⟨h1, _, h3⟩ := chkE_zero h
  refine chkE_ok (by omega) (by rw [List.length_append]; omega) fun e he => ?_
  rcases List.mem_append.1 he with h4 | h4
  · exact h3 e h4
  · exact hx e h4
theorem runE_zero {N : Int} {l : List Ev} (h : (runE N l).1 = 0) : chkE N l = 0 ∧ runL l = (0, (runE N l).2) := by
  unfold runE at h ⊢
  split at h
  · rename_i h1; exact absurd h h1
  · rename_i h1
    rw [if_neg h1]
    split at h
    · rename_i h2; exact absurd h h2
    · rename_i h2
      rw [if_neg h2]
      refine ⟨by simpa using h1, ?_⟩
      have h3 : (runL l).1 = 0 := by simpa using h2
      exact Prod.ext h3 rfl
/-- A log and the events that mend it weave what is wanted. -/
theorem runE_mend {N : Nat} {l : List Ev} {a p : List (List Bool)} (h : runE N l = (0, p)) (ha : a.length ≤ 64) (hr : RowsN N a) (hl : l.length + (mendL a p).length ≤ 400) : runE N (l ++ mendL a p) = (0, a) := by
  obtain ⟨h1, h2⟩ := runE_zero (N := N) (l := l) (by rw [h])
  rw [h] at h2
  exact runE_ok (chkE_app h1 hl (mendL_ok hr)) (runL_mend h2 ha)
/-- The errors of a log that is valid. -/
theorem stepL_err (p : List (List Bool)) (e : Ev) : (stepL p e).1 = 0 ∨ (stepL p e).1 = 4 ∨ (stepL p e).1 = 36 := by
  unfold stepL
  split
  · split <;> simp
  · split
    · split <;> simp
    · simp
theorem runL_err (l : List Ev) : (runL l).1 = 0 ∨ (runL l).1 = 4 ∨ (runL l).1 = 36 := by
  have : ∀ (l : List Ev) (s : Int × List (List Bool)), (s.1 = 0 ∨ s.1 = 4 ∨ s.1 = 36) → ((l.foldl evF s).1 = 0 ∨ (l.foldl evF s).1 = 4 ∨ (l.foldl evF s).1 = 36) := by
    intro l
    induction l with
    | nil => intro s h; exact h
    | cons a l ih =>
      intro s h
      rw [List.foldl_cons]
      refine ih _ ?_
      unfold evF
      split
      · exact h
      · exact stepL_err _ _
  exact this l (0, []) (.inl rfl)
theorem runE_err2 {N : Int} {l : List Ev} (h : chkE N l = 0) (h2 : (runE N l).1 ≠ 0) : (runE N l).1 = 4 ∨ (runE N l).1 = 36 := by
  unfold runE at h2 ⊢
  rw [if_neg (by simpa using h)] at h2 ⊢
  split at h2
  · rename_i h3
    rw [if_pos h3]
    rcases runL_err l with h4 | h4
    · exact absurd h4 h3
    · exact h4
  · exact absurd rfl h2
/-- The log that weaves picks at once. -/
def pickL (a : List (List Bool)) : List Ev := a.map fun r => ((1 : Int), r)
theorem pickL_ok {N : Nat} {a : List (List Bool)} (ha : RowsN N a) : ∀ e ∈ pickL a, evOk N e := by
  intro e he
  obtain ⟨r, hr, rfl⟩ := List.mem_map.1 he
  have h1 := ha r hr
  exact .inl ⟨rfl, by show (r.length : Int) = N; omega⟩
theorem runE_pick {N : Nat} {a : List (List Bool)} (h1 : 1 ≤ N) (h2 : N ≤ 40) (ha : a.length ≤ 64) (hr : RowsN N a) : runE N (pickL a) = (0, a) := by
  refine runE_ok (chkE_ok (by omega) (by unfold pickL; rw [List.length_map]; omega) (pickL_ok hr)) ?_
  have := run_picks a [] (by simpa using ha)
  exact this
/-- A pick that is taken out at once, and a mark, change nothing. -/
def moreL (a : List (List Bool)) (k : Nat) : List Ev := (pickL a).take k ++ [((1 : Int), a.getD 0 []), ((3 : Int), ([] : List Bool)), ((2 : Int), ([] : List Bool))] ++ (pickL a).drop k
theorem runE_more {N : Nat} {a : List (List Bool)} {k : Nat} (h1 : 1 ≤ N) (h2 : N ≤ 40) (h0 : 1 ≤ a.length) (ha : a.length ≤ 60) (hk : k ≤ a.length) (hr : RowsN N a) : runE N (moreL a k) = (0, a) := by
  have hlen : (moreL a k).length = a.length + 3 := by
    unfold moreL pickL
    simp
    omega
  refine runE_ok (chkE_ok (by omega) (by omega) fun e he => ?_) ?_
  · unfold moreL at he
    rcases List.mem_append.1 he with h | h
    · rcases List.mem_append.1 h with h | h
      · exact pickL_ok hr e (List.mem_of_mem_take h)
      · simp at h
        rcases h with rfl | rfl | rfl
        · have h3 := hr (a.getD 0 []) (by
            have : a.getD 0 [] = a[0] := by rw [List.getD_eq_getElem?_getD, List.getElem?_eq_getElem (by omega)]; rfl
            rw [this]
            exact List.getElem_mem _)
          exact .inl ⟨rfl, by simp only [List.getD_eq_getElem?_getD] at h3 ⊢; omega⟩
        · exact .inr ⟨.inr rfl, rfl⟩
        · exact .inr ⟨.inl rfl, rfl⟩
    · exact pickL_ok hr e (List.mem_of_mem_drop h)
  · have e1 : runL ((pickL a).take k) = (0, a.take k) := by
      unfold pickL
      rw [← List.map_take]
      exact run_picks (a.take k) [] (by rw [List.length_take, List.length_nil]; omega)
    have hkl : (a.take k).length = k := by rw [List.length_take]; omega
    have e2 : stepL (a.take k) (1, a.getD 0 []) = (0, a.take k ++ [a.getD 0 []]) := by unfold stepL; rw [if_pos rfl, if_neg (by omega)]
    have e3 : ∀ p, stepL p (3, []) = (0, p) := fun p => by unfold stepL; rw [if_neg (by decide), if_neg (by decide)]
    have e4 : stepL (a.take k ++ [a.getD 0 []]) (2, []) = (0, a.take k) := by unfold stepL; rw [if_neg (by decide), if_pos rfl, if_neg (by simp), List.dropLast_concat]
    unfold moreL
    rw [runL_app, runL_app, e1, List.foldl_cons, List.foldl_cons, List.foldl_cons, List.foldl_nil, evF_zero, e2, evF_zero, e3, evF_zero, e4]
    unfold pickL
    rw [← List.map_drop, run_picks _ _ (by rw [List.length_drop, hkl]; omega), List.take_append_drop]
theorem moreL_len {a : List (List Bool)} {k : Nat} (hk : k ≤ a.length) : (moreL a k).length = a.length + 3 := by
  unfold moreL pickL
  simp
  omega
end Go.Proofs.Ytfjdlbilnoojkaa
