/- What Has, All and Alike answer, as relations that have one answer. No program in sight. -/
import Derived.Test.YtliibficmdomjaaAppP
import Derived.Test.YtliibficmdomjaaMeetP
namespace Go.Proofs.Ytliibficmdomjaa
open Go.RowKit

/-- The operations below k by which a valid grid is like another one. -/
def AlikeK (a b : Nat) (bs : List Bool) (g' : Gd) : Nat → List Int → Prop
  | 0, l => l = []
  | k + 1, l => ∃ l0 p e, AlikeK a b bs g' k l0 ∧ OffR (appG a b bs k) g' (p, e) ∧ l = if e = 0 then l0 ++ [(k : Int)] else l0
section
variable {a b : Nat} {bs : List Bool} {g' : Gd}
theorem AlikeK.unique : ∀ {k : Nat} {l l' : List Int}, AlikeK a b bs g' k l → AlikeK a b bs g' k l' → l = l'
  | 0, _, _, h, h' => h.trans h'.symm
  | _ + 1, _, _, ⟨l0, p, e, h1, h2, h3⟩, ⟨l1, p', e', h1', h2', h3'⟩ => by
    have hl := AlikeK.unique h1 h1'
    have he := OffR.unique h2 h2'
    injection he with _ he
    rw [h3, h3', hl, he]
theorem AlikeK.yes {k : Nat} {l : List Int} {p : Int × Int} (h : AlikeK a b bs g' k l) (ho : OffR (appG a b bs k) g' (p, 0)) : AlikeK a b bs g' (k + 1) (l ++ [(k : Int)]) := ⟨l, p, 0, h, ho, by rw [if_pos rfl]⟩
theorem AlikeK.no {k : Nat} {l : List Int} {p : Int × Int} {e : Int} (h : AlikeK a b bs g' k l) (ho : OffR (appG a b bs k) g' (p, e)) (he : e ≠ 0) : AlikeK a b bs g' (k + 1) l := ⟨l, p, e, h, ho, by rw [if_neg he]⟩
theorem AlikeK.le : ∀ {k : Nat} {l : List Int}, AlikeK a b bs g' k l → l.length ≤ k
  | 0, _, h => by rw [show _ = [] from h]; simp
  | _ + 1, _, ⟨l0, p, e, h1, h2, h3⟩ => by
    have := AlikeK.le h1
    rw [h3]
    split <;> simp <;> omega
end
/-- What All answers. -/
def AllR (g : Gd) (r : List Int × Int) : Prop := if startG g ≠ 0 then r = ([], startG g) else ∃ l, AlikeK g.w.toNat g.h.toNat g.bits g 16 l ∧ r = (l, 0)
/-- The error of two grids. -/
def start2 (g g' : Gd) : Int := if both2 g g' ≠ 0 then both2 g g' else if startG g ≠ 0 then startG g else startG g'
/-- What Alike answers. -/
def AlikeR (g g' : Gd) (r : List Int × Int) : Prop := if start2 g g' ≠ 0 then r = ([], start2 g g') else ∃ l, AlikeK g.w.toNat g.h.toNat g.bits g' 16 l ∧ r = (l, 0)
/-- What Has answers. -/
def HasR (g : Gd) (op : Int) (r : (Bool × Int × Int) × Int) : Prop :=
  if startG g ≠ 0 then r = ((false, 0, 0), startG g) else if op < 0 ∨ 16 ≤ op then r = ((false, 0, 0), 2) else ∃ p e, OffR g (appG g.w.toNat g.h.toNat g.bits op.toNat) (p, e) ∧ r = ((decide (e = 0), p.1, p.2), 0)
theorem AllR.unique {g : Gd} {r r' : List Int × Int} (h : AllR g r) (h' : AllR g r') : r = r' := by
  unfold AllR at h h'
  split at h
  · rename_i hs
    rw [if_pos hs] at h'
    rw [h, h']
  · rename_i hs
    rw [if_neg hs] at h'
    obtain ⟨l, h1, h2⟩ := h
    obtain ⟨l', h1', h2'⟩ := h'
    rw [h2, h2', h1.unique h1']
theorem AlikeR.unique {g g' : Gd} {r r' : List Int × Int} (h : AlikeR g g' r) (h' : AlikeR g g' r') : r = r' := by
  unfold AlikeR at h h'
  split at h
  · rename_i hs
    rw [if_pos hs] at h'
    rw [h, h']
  · rename_i hs
    rw [if_neg hs] at h'
    obtain ⟨l, h1, h2⟩ := h
    obtain ⟨l', h1', h2'⟩ := h'
    rw [h2, h2', h1.unique h1']
theorem HasR.unique {g : Gd} {op : Int} {r r' : (Bool × Int × Int) × Int} (h : HasR g op r) (h' : HasR g op r') : r = r' := by
  unfold HasR at h h'
  split at h
  · rename_i hs
    rw [if_pos hs] at h'
    rw [h, h']
  · rename_i hs
    rw [if_neg hs] at h'
    split at h
    · rename_i ho
      rw [if_pos ho] at h'
      rw [h, h']
    · rename_i ho
      rw [if_neg ho] at h'
      obtain ⟨p, e, h1, h2⟩ := h
      obtain ⟨p', e', h1', h2'⟩ := h'
      have he := OffR.unique h1 h1'
      injection he with hp he
      rw [h2, h2', hp, he]
/-- A list of numbers and an error, in new memory. -/
def RetL (r : List Int × Int) (w : World) (e : Ending) (w' : World) : Prop :=
  ∃ A n c, e = .returned (.tuple #[.slice A n c, .int .i64 r.2]) ∧ w'.ownsRow w.heap.size 3 1 (.slice A n c) n (r.1.map (Value.int .i64)) ∧ Below w.heap.size w w'
end Go.Proofs.Ytliibficmdomjaa
