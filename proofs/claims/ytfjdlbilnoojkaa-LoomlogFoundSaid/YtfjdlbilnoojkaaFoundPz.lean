/- A single fault is found where it is, plain. Nothing here names a function of the program. -/
import Derived.Test.YtfjdlbilnoojkaaSpoilP20z
namespace Go.Proofs.Ytfjdlbilnoojkaa
open Go.RowKit

theorem spoiltL_lift {a : List (List Bool)} {q : Int} {k : Nat} {l l' : List Bool} (h : q ≠ 3) : spoiltL a q k l = spoiltL a q k l' := by unfold spoiltL; rw [if_neg h, if_neg h]
theorem spoiltL_none {a : List (List Bool)} {k : Nat} {l : List Bool} : spoiltL a 0 k l = a := by unfold spoiltL; rw [if_neg (by decide), if_neg (by decide), if_neg (by decide)]
theorem fault_self {a : List (List Bool)} {q : Int} {k : Nat} {lift : List Bool} (hk : k < a.length) : faultAt a (spoiltL a q k lift) q k := by
  unfold faultAt
  by_cases h3 : q = 3
  · subst h3
    have hl : (spoiltL a 3 k lift).length = a.length := by rw [spoiltL_len hk]; simp
    have : liftAt a (spoiltL a 3 k lift) 3 k = lift := by
      unfold liftAt
      rw [if_pos ⟨rfl, by rw [hl]; exact hk⟩, List.getD_eq_getElem?_getD, spoiltL_get hk]
      simp
    rw [this]
  · exact spoiltL_lift h3
theorem FindR.same {a : List (List Bool)} {q k t : Int} (h : FindR a a q k t) : q = 0 ∧ k = 0 ∧ t = 0 := by
  rcases h with ⟨_, h⟩ | ⟨h, _⟩
  · exact h
  · exact absurd rfl h
theorem chain_same {a : List (List Bool)} {m k : Nat} (h : ∀ z, m ≤ z → z < k → a[z]? = a[z + 1]?) : ∀ d y, y + d = k → m ≤ y → a[y]? = a[k]?
  | 0, y, e, _ => by rw [Nat.add_zero] at e; rw [e]
  | d + 1, y, e, hy => (h y hy (by omega)).trans (chain_same h d (y + 1) (by omega) (by omega))
theorem found_fault {a P : List (List Bool)} {q fq fk ft : Int} {k : Nat} {lift : List Bool} (hk : k < a.length) (hq : q = 1 ∨ q = 2 ∨ q = 3) (hP : spoiltL a q k lift = P) (hab : a ≠ P) (h : FindR a P fq fk ft) :
    ft = 0 ∧ fq = q ∧ ∃ kn : Nat, kn ≤ k ∧ fk = kn ∧ (q = 3 → kn = k) ∧ (∀ y, kn ≤ y → y < k → a.getD y [] = a.getD k []) ∧ spoiltL a q kn lift = P := by
  have hself : faultAt a P q k := hP ▸ fault_self hk
  rcases h with ⟨e, _⟩ | ⟨_, ⟨kn, hkn, rfl, hq', rfl, hf, hno⟩ | ⟨rfl, rfl, rfl, hno⟩⟩
  · exact absurd e hab
  · have hle : kn ≤ k := by
      refine Nat.not_lt.1 fun hlt => ?_
      exact hno k q hq (.inl hlt) hself
    have l1 := spoiltL_len hk q lift
    rw [hP] at l1
    unfold faultAt at hf
    have l2 := spoiltL_len hkn fq (liftAt a P fq kn)
    rw [hf] at l2
    have hqq : fq = q := by
      rcases hq with rfl | rfl | rfl <;> rcases hq' with rfl | rfl | rfl <;> simp at l1 l2 ⊢ <;> omega
    subst hqq
    have g1 := fun z => (congrArg (·[z]?) hf).symm.trans (spoiltL_get hkn fq (liftAt a P fq kn) z)
    have g2 := fun z => (congrArg (·[z]?) hP).symm.trans (spoiltL_get hk fq lift z)
    have h3 : fq = 3 → kn = k := by
      intro e3
      subst e3
      refine Classical.byContradiction fun hne => hab ?_
      have e1 := g1 k
      have e2 := g2 k
      simp at e1 e2
      rw [if_neg (fun e => hne e.symm)] at e1
      refine List.ext_getElem? fun z => ?_
      have e4 := g2 z
      simp at e4
      rw [e4]
      by_cases hz : z = k
      · rw [if_pos hz, hz, ← e1, e2]
      · rw [if_neg hz]
    have hstep : ∀ z, kn ≤ z → z < k → a[z]? = a[z + 1]? := by
      intro z hz1 hz2
      rcases hq with rfl | rfl | rfl
      · have e1 := g1 z
        have e2 := g2 z
        simp at e1 e2
        rw [if_neg (by omega)] at e1
        rw [if_pos hz2] at e2
        rw [← e2, e1]
      · have e1 := g1 (z + 1)
        have e2 := g2 (z + 1)
        simp at e1 e2
        rw [if_neg (by omega)] at e1
        rw [if_pos (by omega)] at e2
        rw [← e1, e2]
      · have := h3 rfl
        omega
    refine ⟨rfl, rfl, kn, hle, rfl, h3, fun y h1 h2 => ?_, ?_⟩
    · rw [List.getD_eq_getElem?_getD, List.getD_eq_getElem?_getD, chain_same hstep (k - y) y (by omega) h1]
    · by_cases e3 : fq = 3
      · rw [h3 e3]; exact hP
      · rw [spoiltL_lift e3]; exact hf
  · exact absurd hself (hno k q hq (.inl hk))
end Go.Proofs.Ytfjdlbilnoojkaa
