/- The search for a fault, plain: what both searches answer is one answer. Nothing here names a function of the program. -/
import Derived.Test.YtfjdlbilnoojkaaFaultPz
import Derived.Test.YtfjdlbilnoojkaaMg3z
import Derived.Test.YtfjdlbilnoojkaaShortz
namespace Go.Proofs.Ytfjdlbilnoojkaa
open Go.RowKit

def K3 (q : Int) : Prop := q = 1 ∨ q = 2 ∨ q = 3
/-- No fault before kind q at place k. -/
def NoF (a b : List (List Bool)) (k : Nat) (q : Int) : Prop := ∀ (k' : Nat) (q' : Int), K3 q' → (k' < k ∨ (k' = k ∧ q' < q)) → ¬ faultAt a b q' k'
theorem NoF.zero (a b : List (List Bool)) : NoF a b 0 1 := fun k' q' h h2 => by rcases h with rfl | rfl | rfl <;> omega
theorem NoF.next {a b : List (List Bool)} {k : Nat} {q : Int} (h : NoF a b k q) (hf : ¬ faultAt a b q k) : NoF a b k (q + 1) := fun k' q' hq h2 => by
  by_cases he : k' = k ∧ q' = q
  · obtain ⟨rfl, rfl⟩ := he; exact hf
  · exact h k' q' hq (by omega)
theorem NoF.row {a b : List (List Bool)} {k : Nat} (h : NoF a b k 4) : NoF a b (k + 1) 1 := fun k' q' hq h2 => h k' q' hq (by rcases hq with rfl | rfl | rfl <;> omega)
/-- What the search answers. -/
def FindR (a b : List (List Bool)) (q k t : Int) : Prop :=
  (a = b ∧ q = 0 ∧ k = 0 ∧ t = 0) ∨ (a ≠ b ∧ ((∃ kn : Nat, kn < a.length ∧ k = kn ∧ K3 q ∧ t = 0 ∧ faultAt a b q kn ∧ NoF a b kn q) ∨ (q = 0 ∧ k = 0 ∧ t = 6 ∧ NoF a b a.length 1)))
theorem FindR.unique {a b : List (List Bool)} {q k t q' k' t' : Int} (h : FindR a b q k t) (h' : FindR a b q' k' t') : q = q' ∧ k = k' ∧ t = t' := by
  rcases h with ⟨e, rfl, rfl, rfl⟩ | ⟨e, h⟩
  · rcases h' with ⟨_, rfl, rfl, rfl⟩ | ⟨e', _⟩
    · exact ⟨rfl, rfl, rfl⟩
    · exact absurd e e'
  · rcases h' with ⟨e', _⟩ | ⟨_, h'⟩
    · exact absurd e' e
    · rcases h with ⟨kn, hk, rfl, hq, rfl, hf, hn⟩ | ⟨rfl, rfl, rfl, hn⟩
      · rcases h' with ⟨kn', hk', rfl, hq', rfl, hf', hn'⟩ | ⟨rfl, rfl, rfl, hn'⟩
        · have h1 : kn = kn' ∧ q = q' := by
            by_cases c1 : kn < kn' ∨ (kn = kn' ∧ q < q')
            · exact absurd hf (hn' kn q hq c1)
            · by_cases c2 : kn' < kn ∨ (kn' = kn ∧ q' < q)
              · exact absurd hf' (hn kn' q' hq' c2)
              · omega
          exact ⟨h1.2, by rw [h1.1], rfl⟩
        · exact absurd hf (hn' kn q hq (.inl hk))
      · rcases h' with ⟨kn', hk', rfl, hq', rfl, hf', hn'⟩ | ⟨rfl, rfl, rfl, hn'⟩
        · exact absurd hf' (hn kn' q' hq' (.inl hk'))
        · exact ⟨rfl, rfl, rfl⟩
/-- What Find answers. -/
def FindA (W H : Int) (bs : List Bool) (W2 H2 : Int) (bt : List Bool) (q k t : Int) : Prop :=
  if chkP W H bs.length ≠ 0 then q = 0 ∧ k = 0 ∧ t = chkP W H bs.length else if chkP W2 H2 bt.length ≠ 0 then q = 0 ∧ k = 0 ∧ t = chkP W2 H2 bt.length
  else if W ≠ W2 then q = 0 ∧ k = 0 ∧ t = 26 else FindR (rowsB W.toNat H.toNat bs) (rowsB W.toNat H2.toNat bt) q k t
theorem FindA.unique {W H : Int} {bs : List Bool} {W2 H2 : Int} {bt : List Bool} {q k t q' k' t' : Int} (h : FindA W H bs W2 H2 bt q k t) (h' : FindA W H bs W2 H2 bt q' k' t') : q = q' ∧ k = k' ∧ t = t' := by
  unfold FindA at h h'
  split at h
  · rename_i h1
    rw [if_pos h1] at h'
    exact ⟨h.1.trans h'.1.symm, h.2.1.trans h'.2.1.symm, h.2.2.trans h'.2.2.symm⟩
  · rename_i h1
    rw [if_neg h1] at h'
    split at h
    · rename_i h2
      rw [if_pos h2] at h'
      exact ⟨h.1.trans h'.1.symm, h.2.1.trans h'.2.1.symm, h.2.2.trans h'.2.2.symm⟩
    · rename_i h2
      rw [if_neg h2] at h'
      split at h
      · rename_i h3
        rw [if_pos h3] at h'
        exact ⟨h.1.trans h'.1.symm, h.2.1.trans h'.2.1.symm, h.2.2.trans h'.2.2.symm⟩
      · rename_i h3
        rw [if_neg h3] at h'
        exact h.unique h'
theorem FindA.bad1 {W H : Int} {bs : List Bool} {W2 H2 : Int} {bt : List Bool} (h : chkP W H bs.length ≠ 0) : FindA W H bs W2 H2 bt 0 0 (chkP W H bs.length) := by unfold FindA; rw [if_pos h]; exact ⟨rfl, rfl, rfl⟩
theorem FindA.bad2 {W H : Int} {bs : List Bool} {W2 H2 : Int} {bt : List Bool} (h : chkP W H bs.length = 0) (h2 : chkP W2 H2 bt.length ≠ 0) : FindA W H bs W2 H2 bt 0 0 (chkP W2 H2 bt.length) := by unfold FindA; rw [if_neg (by simpa using h), if_pos h2]; exact ⟨rfl, rfl, rfl⟩
theorem FindA.bad3 {W H : Int} {bs : List Bool} {W2 H2 : Int} {bt : List Bool} (h : chkP W H bs.length = 0) (h2 : chkP W2 H2 bt.length = 0) (h3 : W ≠ W2) : FindA W H bs W2 H2 bt 0 0 26 := by unfold FindA; rw [if_neg (by simpa using h), if_neg (by simpa using h2), if_pos h3]; exact ⟨rfl, rfl, rfl⟩
theorem FindA.ok {a ka kb : Nat} {bs bt : List Bool} {q k t : Int} (h : chkP a ka bs.length = 0) (h2 : chkP a kb bt.length = 0) (h3 : FindR (rowsB a ka bs) (rowsB a kb bt) q k t) : FindA a ka bs a kb bt q k t := by unfold FindA; rw [if_neg (by simpa using h), if_neg (by simpa using h2), if_neg (by simp)]; exact h3
end Go.Proofs.Ytfjdlbilnoojkaa
