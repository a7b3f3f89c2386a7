/- A search in memory: its list and its best list stand in the call's own rows. -/
import Derived.Test.YtmajmbfbnchbfaaMg6z
import Derived.Test.YtmajmbfbnchbfaaTwoz
import Derived.Test.YtmajmbfbnchbfaaProg
namespace Go.Proofs.Ytmajmbfbnchbfaa
open Go.RowKit

/-- The list cut short. -/
theorem own_pre {w : World} {base e n c m : Nat} {A : Option Addr} {xs : List Value} (h : w.ownsRow base e 1 (.slice A n c) n xs) (hm : m ≤ n) (hp : 0 < n) : w.ownsRow base e 1 (.slice A m c) m (xs.take m) := by
  refine ⟨by have := h.1; rw [List.length_take]; omega, ?_⟩
  rcases h.2 with ⟨_, h0⟩ | ⟨g, cap, cur, hv, hb, hh, hnc, hcm, hcs, ht⟩
  · omega
  · injection hv with e1 _ e3
    subst e1 e3
    refine .inr ⟨g, c, cur, rfl, hb, hh, by omega, hcm, hcs, ?_⟩
    rw [← ht, List.take_take]
    congr 1
    omega
theorem own_grow {w : World} {base base' e n : Nat} {v : Value} {xs : List Value} (h : w.ownsRow base' e 1 v n xs) (hb : base ≤ base') : w.ownsRow base e 1 v n xs := by
  refine ⟨h.1, ?_⟩
  rcases h.2 with h0 | ⟨g, cap, cur, hv, h1, h2⟩
  · exact .inl h0
  · exact .inr ⟨g, cap, cur, hv, Nat.le_trans hb h1, h2⟩
theorem own_keep {w w' : World} {base e n : Nat} {v : Value} {xs : List Value} (h : w.ownsRow base e 1 v n xs) (hb : Below w.heap.size w w') : w'.ownsRow base e 1 v n xs :=
  h.kept (below_grown hb none) (by cases hv : v.ownBlock <;> simp)
theorem own_cap {w : World} {base e n c : Nat} {A : Option Addr} {xs : List Value} (h : w.ownsRow base e 1 (.slice A n c) n xs) : n ≤ c := by
  rcases h.2 with ⟨hv, h0⟩ | ⟨g, cap, cur, hv, _, _, h1, _⟩
  · omega
  · injection hv with _ _ e3
    omega
theorem own_addr {w : World} {base e n c : Nat} {A : Option Addr} {xs : List Value} (h : w.ownsRow base e 1 (.slice A n c) n xs) (hn : 1 ≤ n) : ∃ g, A = some ⟨g, 0, none⟩ := by
  rcases h.2 with ⟨hv, h0⟩ | ⟨g, cap, cur, hv, _⟩
  · omega
  · injection hv with e1
    exact ⟨g, e1⟩
theorem own_slice {w : World} {base e n : Nat} {v : Value} {xs : List Value} (h : w.ownsRow base e 1 v n xs) : ∃ A c, v = .slice A n c := by
  rcases h.2 with ⟨rfl, rfl⟩ | ⟨g, cap, cur, rfl, _⟩
  · exact ⟨_, _, rfl⟩
  · exact ⟨_, _, rfl⟩
/-- Groups that may be numbers of shafts, and of ends. -/
def GrL (a : Nat) (k : Int) (l : List Int) : Prop := ∀ x ∈ l, 0 ≤ x ∧ x < k ∧ x < a
/-- The best list so far, if there is one. -/
def BestI (a h : Nat) (bs : List Bool) (k : Int) (vb : Value) (nb : Nat) (bl : List Int) (cst : Int) : Prop :=
  (vb = .slice none 0 0 ∧ nb = 0 ∧ bl = []) ∨ ((∃ g c, vb = .slice (some ⟨g, 0, none⟩) a c) ∧ nb = a ∧ bl.length = a ∧ GrL a k bl ∧ cst = costL a h bs bl)
def srC (a h : Nat) (A : Option Addr) (c : Nat) (k : Int) (vl vb : Value) (cst : Int) : Array Value := #[.int .i64 a, .int .i64 h, .slice A (h * a) c, .int .i64 k, vl, vb, .int .i64 cst]
structure SS (w : World) (sb a h : Nat) (bs : List Bool) (A : Option Addr) (c : Nat) (k : Int) (vl : Value) (n : Nat) (l : List Int) (vb : Value) (cst : Int) (u : World) : Prop where
  blk : Blk u sb 86 (srC a h A c k vl vb cst)
  ol : u.ownsRow w.heap.size 3 1 vl n (l.map (Value.int .i64))
  ob : ∃ nb bl, u.ownsRow w.heap.size 3 1 vb nb (bl.map (Value.int .i64)) ∧ BestI a h bs k vb nb bl cst
  ne : vl.ownBlock = none ∨ vb.ownBlock = none ∨ vl.ownBlock ≠ vb.ownBlock
  bel : Below w.heap.size w u
  good : GrL a k l
  sb0 : w.heap.size ≤ sb

section
variable {w u u' w3 : World} {sb a h : Nat} {bs : List Bool} {A : Option Addr} {c : Nat} {k : Int} {vl : Value} {n : Nat} {l : List Int} {vb : Value} {cst : Int}
theorem SS.keep (H : SS w sb a h bs A c k vl n l vb cst u) (hb : Below u.heap.size u u') : SS w sb a h bs A c k vl n l vb cst u' := by
  obtain ⟨nb, bl, h1, h2⟩ := H.ob
  exact ⟨H.blk.keep hb, own_keep H.ol hb, ⟨nb, bl, own_keep h1 hb, h2⟩, H.ne, below_then H.bel hb, H.good, H.sb0⟩
theorem SS.alloc (H : SS w sb a h bs A c k vl n l vb cst u) (o : Obj) : SS w sb a h bs A c k vl n l vb cst (u.alloc o) := H.keep ((Below.refl _ _).alloc (Nat.le_refl _) o)
theorem SS.lt (H : SS w sb a h bs A c k vl n l vb cst u) : sb < u.heap.size := H.blk.lt
theorem SS.app (H : SS w sb a h bs A c k vl n l vb cst u) {g cap : Nat} {x : Int} (o : Obj) (ho : w3.ownsRow w.heap.size 3 1 (.slice (some ⟨g, 0, none⟩) (n + 1) cap) (n + 1) (l.map (Value.int .i64) ++ [.int .i64 x]))
    (hg : (u.alloc o).grownBy w3 vl.ownBlock) (hl : vl.ownBlock = some g ∨ g = (u.alloc o).heap.size) (h0 : 0 ≤ x) (h1 : x < k) (h2 : x < a) :
    SS w sb a h bs A c k (.slice (some ⟨g, 0, none⟩) (n + 1) cap) (n + 1) (l ++ [x]) vb cst (w3.setCell ⟨sb, 4, none⟩ (.slice (some ⟨g, 0, none⟩) (n + 1) cap)) := by
  obtain ⟨nb, bl, o1, o2⟩ := H.ob
  have hsx := H.bel.size
  have kb := (H.blk.alloc o).grown hg (own_blk_ne H.ol H.blk (by decide))
  have ko : w3.ownsRow w.heap.size 3 1 vb nb (bl.map (Value.int .i64)) := by
    rcases H.ne with e | e | e
    · rw [e] at hg
      exact (o1.alloc o).kept hg (by cases hv : vb.ownBlock <;> simp)
    · exact (o1.alloc o).kept hg (.inl e)
    · exact (o1.alloc o).kept hg (.inr (fun e' => e e'.symm))
  refine ⟨by simpa [srC] using kb.set_ 4 (.slice (some ⟨g, 0, none⟩) (n + 1) cap), ?_, ⟨nb, bl, own_far ko (own_blk_ne ko kb (by decide)) _, o2⟩, ?_, ((H.bel.alloc hsx o).grown hg (size_alloc_le hsx o) (fun q hq => (H.ol.lt q hq).1)).setCell H.sb0 _, ?_, H.sb0⟩
  · rw [List.map_append]
    exact own_far ho (own_blk_ne ho kb (by decide)) _
  · rcases hl with e | e
    · rcases H.ne with e2 | e2 | e2
      · rw [e2] at e; cases e
      · exact .inr (.inl e2)
      · exact .inr (.inr (by rw [e] at e2; exact e2))
    · cases hv : vb.ownBlock with
      | none => exact .inr (.inl rfl)
      | some q =>
        have hq := (o1.lt q hv).2
        refine .inr (.inr ?_)
        simp [Value.ownBlock, e]
        omega
  · intro y hy
    rcases List.mem_append.1 hy with hy | hy
    · exact H.good y hy
    · rw [List.mem_singleton.1 hy]
      exact ⟨h0, h1, h2⟩
theorem SS.cut {g cap : Nat} {x : Int} (hn : l.length = n) (H : SS w sb a h bs A c k (.slice (some ⟨g, 0, none⟩) (n + 1) cap) (n + 1) (l ++ [x]) vb cst u) : SS w sb a h bs A c k (.slice (some ⟨g, 0, none⟩) n cap) n l vb cst (u.setCell ⟨sb, 4, none⟩ (.slice (some ⟨g, 0, none⟩) n cap)) := by
  obtain ⟨nb, bl, o1, o2⟩ := H.ob
  have h1 := own_pre H.ol (Nat.le_succ n) (Nat.succ_pos n)
  rw [List.map_append, List.take_left' (by simpa using hn)] at h1
  exact ⟨by simpa [srC] using H.blk.set_ 4 (.slice (some ⟨g, 0, none⟩) n cap), own_far h1 (show some sb ≠ some g from own_blk_ne H.ol H.blk (by decide)) _, ⟨nb, bl, own_far o1 (own_blk_ne o1 H.blk (by decide)) _, o2⟩, H.ne, H.bel.setCell H.sb0 _, fun y hy => H.good y (List.mem_append_left _ hy), H.sb0⟩
theorem SS.best {g cap : Nat} (H : SS w sb a h bs A c k vl a l vb cst u) (hl : l.length = a) (hb : Below u.heap.size u u') (ho : u'.ownsRow u.heap.size 3 1 (.slice (some ⟨g, 0, none⟩) a cap) a (l.map (Value.int .i64))) :
    SS w sb a h bs A c k vl a l (.slice (some ⟨g, 0, none⟩) a cap) (costL a h bs l) ((u'.setCell ⟨sb, 5, none⟩ (.slice (some ⟨g, 0, none⟩) a cap)).setCell ⟨sb, 6, none⟩ (.int .i64 (costL a h bs l))) := by
  have H' := H.keep hb
  have e1 := own_blk_ne H'.ol H'.blk (by decide)
  have h3 : (u'.setCell ⟨sb, 5, none⟩ (.slice (some ⟨g, 0, none⟩) a cap)).ownsRow w.heap.size 3 1 vl a (l.map (Value.int .i64)) := own_far H'.ol e1 _
  have e2 := own_blk_ne ho H'.blk (by decide)
  have h4 := own_far (p := ⟨sb, 5, none⟩) (own_grow ho H.bel.size) e2 (.slice (some ⟨g, 0, none⟩) a cap)
  refine ⟨by simpa [srC] using (H'.blk.set_ 5 (.slice (some ⟨g, 0, none⟩) a cap)).set_ 6 (.int .i64 (costL a h bs l)), own_far h3 e1 _, ⟨a, l, own_far h4 e2 _, .inr ⟨⟨g, cap, rfl⟩, rfl, hl, H.good, rfl⟩⟩, ?_, (H'.bel.setCell H.sb0 _).setCell H.sb0 _, H.good, H.sb0⟩
  cases hv : vl.ownBlock with
  | none => exact .inl rfl
  | some q =>
    have hq := (H.ol.lt q hv).2
    have hg := (ho.lt g rfl).1
    refine .inr (.inr ?_)
    simp [Value.ownBlock]
    omega
end
end Go.Proofs.Ytmajmbfbnchbfaa
