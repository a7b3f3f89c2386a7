/- Parts of the proof, in their order. -/
import Derived.Test.YtliibficmdomjaaDoorRecPz
import Derived.Test.YtliibficmdomjaaDoorMg3z
/- Whether two planes meet, looked at within one common rectangle; the offset as a relation. Plain Lean, no program in sight. -/
namespace Go.Proofs.YtliibficmdomjaaDoor
open Go.RowKit

theorem meets_range {a b a' b' : Nat} {bs bs' : List Bool} {L M dx dy : Nat} (h1 : a ∣ L) (h2 : a' ∣ L) (h3 : b ∣ M) (h4 : b' ∣ M) (hL : 1 ≤ L) (hM : 1 ≤ M) :
    Meets a b bs a' b' bs' dx dy ↔ ∀ x y : Nat, x < L → y < M → pl a b bs (x : Int) (y : Int) = pl a' b' bs' ((x : Int) + (dx : Int)) ((y : Int) + (dy : Int)) := by
  refine ⟨fun h x y _ _ => h x y, fun h X Y => ?_⟩
  have x1 := Int.emod_nonneg X (show (L : Int) ≠ 0 by omega)
  have x2 := Int.emod_lt_of_pos X (show 0 < (L : Int) by omega)
  have y1 := Int.emod_nonneg Y (show (M : Int) ≠ 0 by omega)
  have y2 := Int.emod_lt_of_pos Y (show 0 < (M : Int) by omega)
  have k := h (X % (L : Int)).toNat (Y % (M : Int)).toNat (by omega) (by omega)
  rw [Int.toNat_of_nonneg x1, Int.toNat_of_nonneg y1] at k
  have d : ∀ {p q : Nat} (Z z : Int), p ∣ q → (Z % (q : Int) + z) % (p : Int) = (Z + z) % (p : Int) := fun {p q} Z z hd => by
    rw [Int.add_emod, Int.emod_emod_of_dvd Z (Int.natCast_dvd_natCast.2 hd), ← Int.add_emod]
  have e1 : pl a b bs X Y = pl a b bs (X % (L : Int)) (Y % (M : Int)) :=
    pl_congr (by have := d X 0 h1; simpa using this.symm) (by have := d Y 0 h3; simpa using this.symm)
  have e2 : pl a' b' bs' (X + (dx : Int)) (Y + (dy : Int)) = pl a' b' bs' (X % (L : Int) + (dx : Int)) (Y % (M : Int) + (dy : Int)) :=
    pl_congr (d X dx h2).symm (d Y dy h4).symm
  rw [e1, e2]
  exact k

/-- The offset of two grids, with the error, as a relation. -/
def OffR (g g' : Gd) (r : (Int × Int) × Int) : Prop :=
  (both2 g g' ≠ 0 ∧ r = ((0, 0), both2 g g')) ∨
  (both2 g g' = 0 ∧ ∃ x y : Nat, IsOff g.w.toNat g.h.toNat g.bits g'.w.toNat g'.h.toNat g'.bits x y ∧ r = (((x : Int), (y : Int)), 0)) ∨
  (both2 g g' = 0 ∧ (∀ x y : Nat, ¬ Meets g.w.toNat g.h.toNat g.bits g'.w.toNat g'.h.toNat g'.bits x y) ∧ r = ((0, 0), 6))
theorem OffR.unique {g g' : Gd} {r r' : (Int × Int) × Int} (h : OffR g g' r) (h' : OffR g g' r') : r = r' := by
  rcases h with ⟨h1, h2⟩ | ⟨h1, x, y, h2, h3⟩ | ⟨h1, h2, h3⟩ <;> rcases h' with ⟨k1, k2⟩ | ⟨k1, x', y', k2, k3⟩ | ⟨k1, k2, k3⟩
  · rw [h2, k2]
  · exact absurd k1 h1
  · exact absurd k1 h1
  · exact absurd h1 k1
  · obtain ⟨e1, e2⟩ := h2.unique k2
    rw [h3, k3, e1, e2]
  · exact absurd h2.1 (k2 x y)
  · exact absurd h1 k1
  · exact absurd k2.1 (h2 x' y')
  · rw [h3, k3]
theorem meets_b (P : Prop) : ∃ R : Bool, R = true ↔ P := by
  classical
  exact ⟨decide P, by simp⟩
end Go.Proofs.YtliibficmdomjaaDoor
/- What Has, All and Alike answer, as relations that have one answer. No program in sight. -/
namespace Go.Proofs.YtliibficmdomjaaDoor
open Go.RowKit

/-- The operations below k by which a valid grid is like another one. -/
def AlikeK (a b : Nat) (bs : List Bool) (g' : Gd) : Nat → List Int → Prop
  | 0, l => l = []
  | k + 1, l => ∃ l0 p e, AlikeK a b bs g' k l0 ∧ OffR (appG a b bs k) g' (p, e) ∧ l = if e = 0 then l0 ++ [(k : Int)] else l0
section
variable {a b : Nat} {bs : List Bool} {g' : Gd}
theorem AlikeK.unique : ∀ {k : Nat} {l l' : List Int}, AlikeK a b bs g' k l → AlikeK a b bs g' k l' → l = l'
  | 0, _, _, h, h' => h.trans h'.symm
  | _ + 1, _, _, ⟨l0, p, e, h1, h2, h3⟩, ⟨l1, p', e', h1', h2', h3'⟩ => by
    have hl := AlikeK.unique h1 h1'
    have he := OffR.unique h2 h2'
    injection he with _ he
    rw [h3, h3', hl, he]
theorem AlikeK.yes {k : Nat} {l : List Int} {p : Int × Int} (h : AlikeK a b bs g' k l) (ho : OffR (appG a b bs k) g' (p, 0)) : AlikeK a b bs g' (k + 1) (l ++ [(k : Int)]) := ⟨l, p, 0, h, ho, by rw [if_pos rfl]⟩
theorem AlikeK.no {k : Nat} {l : List Int} {p : Int × Int} {e : Int} (h : AlikeK a b bs g' k l) (ho : OffR (appG a b bs k) g' (p, e)) (he : e ≠ 0) : AlikeK a b bs g' (k + 1) l := ⟨l, p, e, h, ho, by rw [if_neg he]⟩
theorem AlikeK.le : ∀ {k : Nat} {l : List Int}, AlikeK a b bs g' k l → l.length ≤ k
  | 0, _, h => by rw [show _ = [] from h]; simp
  | _ + 1, _, ⟨l0, p, e, h1, h2, h3⟩ => by
    have := AlikeK.le h1
    rw [h3]
    split <;> simp <;> omega
end
/-- What All answers. -/
def AllR (g : Gd) (r : List Int × Int) : Prop := if startG g ≠ 0 then r = ([], startG g) else ∃ l, AlikeK g.w.toNat g.h.toNat g.bits g 16 l ∧ r = (l, 0)
/-- The error of two grids. -/
def start2 (g g' : Gd) : Int := if both2 g g' ≠ 0 then both2 g g' else if startG g ≠ 0 then startG g else startG g'
/-- What Alike answers. -/
def AlikeR (g g' : Gd) (r : List Int × Int) : Prop := if start2 g g' ≠ 0 then r = ([], start2 g g') else ∃ l, AlikeK g.w.toNat g.h.toNat g.bits g' 16 l ∧ r = (l, 0)
/-- What Has answers. -/
def HasR (g : Gd) (op : Int) (r : (Bool × Int × Int) × Int) : Prop :=
  if startG g ≠ 0 then r = ((false, 0, 0), startG g) else if op < 0 ∨ 16 ≤ op then r = ((false, 0, 0), 2) else ∃ p e, OffR g (appG g.w.toNat g.h.toNat g.bits op.toNat) (p, e) ∧ r = ((decide (e = 0), p.1, p.2), 0)
theorem AllR.unique {g : Gd} {r r' : List Int × Int} (h : AllR g r) (h' : AllR g r') : r = r' := by
  unfold AllR at h h'
  split at h
  · rename_i hs
    rw [if_pos hs] at h'
    rw [h, h']
  · rename_i hs
    rw [if_neg hs] at h'
    obtain ⟨l, h1, h2⟩ := h
    obtain ⟨l', h1', h2'⟩ := h'
    rw [h2, h2', h1.unique h1']
theorem AlikeR.unique {g g' : Gd} {r r' : List Int × Int} (h : AlikeR g g' r) (h' : AlikeR g g' r') : r = r' := by
  unfold AlikeR at h h'
  split at h
  · rename_i hs
    rw [if_pos hs] at h'
    rw [h, h']
  · rename_i hs
    rw [if_neg hs] at h'
    obtain ⟨l, h1, h2⟩ := h
    obtain ⟨l', h1', h2'⟩ := h'
    rw [h2, h2', h1.unique h1']
theorem HasR.unique {g : Gd} {op : Int} {r r' : (Bool × Int × Int) × Int} (h : HasR g op r) (h' : HasR g op r') : r = r' := by
  unfold HasR at h h'
  split at h
  · rename_i hs
    rw [if_pos hs] at h'
    rw [h, h']
  · rename_i hs
    rw [if_neg hs] at h'
    split at h
    · rename_i ho
      rw [if_pos ho] at h'
      rw [h, h']
    · rename_i ho
      rw [if_neg ho] at h'
      obtain ⟨p, e, h1, h2⟩ := h
      obtain ⟨p', e', h1', h2'⟩ := h'
      have he := OffR.unique h1 h1'
      injection he with hp he
      rw [h2, h2', hp, he]
end Go.Proofs.YtliibficmdomjaaDoor
