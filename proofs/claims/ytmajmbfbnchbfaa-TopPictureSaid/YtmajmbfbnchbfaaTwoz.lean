/- Two new grids that grow side by side. -/
import Derived.Test.YtmajmbfbnchbfaaLibz
import Derived.Test.YtmajmbfbnchbfaaMg2z
import Derived.Test.YtmajmbfbnchbfaaMg1z
import Derived.Deep.AppendLies
namespace Go.Proofs.Ytmajmbfbnchbfaa
open Go.RowKit Go.ChangeShapes Go.WideShapes Go.Deep

theorem Blk.farT {w : World} {g g' : Nat} {t : TypeId} {cs : Array Value} (h : Blk w g t cs) (hne : g ≠ g') (a b c : Value) : Blk (((w.setCell ⟨g', 0, none⟩ a).setCell ⟨g', 1, none⟩ b).setCell ⟨g', 2, none⟩ c) g t cs :=
  ((h.far (p := ⟨g', 0, none⟩) hne a).far (p := ⟨g', 1, none⟩) hne b).far (p := ⟨g', 2, none⟩) hne c
/-- wpList_app, which tells where the slice lies now. -/
theorem wpList_app2 {P : Program} (w : World) {ops : Array Oper} {rest : List Oper} {o : Oper} {a : Act} {Q : Exit → Act → World → Prop} (hgd : o.guard = none) (s x : Operand) (t : TypeId)
    (ho : o.op = .call { callee := .builtin .append, args := #[s, x], argTypes := #[t, t] })
    (base : Nat) (e : TypeId) (i : TypeInfo) (z : Value) (bytes : Nat) (ht : P.underlying t = some (.slice e)) (hi : P.info? e = some i) (hz : i.zero = some z)
    (hsize : i.size = 1) (hby : i.bytes = bytes) (hzs : z.cells.size = 1) (hb24 : bytes ≤ 24)
    (v : Value) (n : Nat) (xs : List Value) (hs : a.eval s = v) (hown : w.ownsRow base e 1 v n xs)
    (b : Nat) (u : Value) (hx : a.eval x = .slice (some ⟨b, 0, none⟩) 1 1) (hu : w.cell? ⟨b, 0, none⟩ = some u) (h1 : u.oneCell' = true)
    (hn : n + 1 ≤ 1048576) (hbase : base ≤ w.heap.size)
    (h : ∀ g cap w', w'.ownsRow base e 1 (.slice (some ⟨g, 0, none⟩) (n + 1) cap) (n + 1) (xs ++ [u]) → w.grownBy w' v.ownBlock → (v.ownBlock = some g ∨ g = w.heap.size) → wpList P ops Q rest (a.put o.dst (.slice (some ⟨g, 0, none⟩) (n + 1) cap)) w') :
    wpList P ops Q (o :: rest) a w :=
  wpList_append_lies w hgd s x t ho base e i z 1 bytes ht hi hz hsize hby hzs (by omega) v n xs hs hown ⟨b, 0, none⟩ 1 1 [u] hx rfl
    (fun j y hy => by
      cases j with
      | zero => simp at hy; subst hy; rw [Addr.add_lit]; exact hu
      | succ j => simp at hy)
    (fun y hy => by simp at hy; subst hy; exact h1) (by omega) (add_maxLen hn).1
    (Nat.le_trans (Nat.mul_le_mul_left _ hb24) (add_maxLen hn).2) hbase _ rfl fun g cap w' h2 h3 h4 _ => h g cap w' h2 h3 h4

/-- The two grids stand in the blocks B + 1 and B + 2; in block B stands something else. -/
structure Two (w : World) (wr : World) (tc : TypeId) (gc : Array Value) (P Q : Nat) (v1 v2 : Value) (l1 l2 : Nat) (xs ys : List Value) : Prop where
  g : Blk wr w.heap.size tc gc
  r1 : Blk wr (w.heap.size + 1) 25 #[.int .i64 P, .int .i64 Q, v1]
  r2 : Blk wr (w.heap.size + 1 + 1) 25 #[.int .i64 P, .int .i64 Q, v2]
  o1 : wr.ownsRow w.heap.size 4 1 v1 l1 xs
  o2 : wr.ownsRow w.heap.size 4 1 v2 l2 ys
  ne : v1.ownBlock = none ∨ v2.ownBlock = none ∨ v1.ownBlock ≠ v2.ownBlock
  bel : Below w.heap.size w wr

section
variable {w wr w3 : World} {tc : TypeId} {gc : Array Value} {P Q : Nat} {v1 v2 : Value} {l1 l2 : Nat} {xs ys : List Value} {u : Value} {g cap : Nat}
theorem Two.fst (h : Two w wr tc gc P Q v1 v2 l1 l2 xs ys) (htc : tc ≠ 4) (o : Obj) (ho : w3.ownsRow w.heap.size 4 1 (.slice (some ⟨g, 0, none⟩) (l1 + 1) cap) (l1 + 1) (xs ++ [u])) (hg : (wr.alloc o).grownBy w3 v1.ownBlock) (hl : v1.ownBlock = some g ∨ g = (wr.alloc o).heap.size) :
    Two w (w3.setCell ⟨w.heap.size + 1, 2, none⟩ (.slice (some ⟨g, 0, none⟩) (l1 + 1) cap)) tc gc P Q (.slice (some ⟨g, 0, none⟩) (l1 + 1) cap) v2 (l1 + 1) l2 (xs ++ [u]) ys := by
  have hsx := h.bel.size
  have k1 := (h.r1.alloc o).grown hg (own_blk_ne h.o1 h.r1 (by decide))
  have k2 := (h.r2.alloc o).grown hg (own_blk_ne h.o1 h.r2 (by decide))
  have k0 := (h.g.alloc o).grown hg (own_blk_ne h.o1 h.g (fun e => htc e.symm))
  have kb := (h.bel.alloc hsx o).grown hg (size_alloc_le hsx o) (fun k hk => (h.o1.lt k hk).1)
  have ko : w3.ownsRow w.heap.size 4 1 v2 l2 ys := by
    rcases h.ne with e | e | e
    · rw [e] at hg
      exact (h.o2.alloc o).kept hg (by cases hv : v2.ownBlock <;> simp)
    · exact (h.o2.alloc o).kept hg (.inl e)
    · exact (h.o2.alloc o).kept hg (.inr (fun e' => e e'.symm))
  refine ⟨k0.far (by simp) _, by simpa using k1.set_ 2 (.slice (some ⟨g, 0, none⟩) (l1 + 1) cap), k2.far (by simp) _, own_far ho (own_blk_ne ho k1 (by decide)) _, own_far ko (own_blk_ne ko k1 (by decide)) _, ?_, kb.setCell (by simp; try omega) _⟩
  rcases hl with e | e
  · rcases h.ne with e2 | e2 | e2
    · rw [e2] at e; cases e
    · exact .inr (.inl e2)
    · exact .inr (.inr (by rw [e] at e2; exact e2))
  · cases hv : v2.ownBlock with
    | none => exact .inr (.inl rfl)
    | some q =>
      have hq := (h.o2.lt q hv).2
      refine .inr (.inr ?_)
      simp [Value.ownBlock, e]
      omega
theorem Two.snd (h : Two w wr tc gc P Q v1 v2 l1 l2 xs ys) (htc : tc ≠ 4) (o : Obj) (ho : w3.ownsRow w.heap.size 4 1 (.slice (some ⟨g, 0, none⟩) (l2 + 1) cap) (l2 + 1) (ys ++ [u])) (hg : (wr.alloc o).grownBy w3 v2.ownBlock) (hl : v2.ownBlock = some g ∨ g = (wr.alloc o).heap.size) :
    Two w (w3.setCell ⟨w.heap.size + 1 + 1, 2, none⟩ (.slice (some ⟨g, 0, none⟩) (l2 + 1) cap)) tc gc P Q v1 (.slice (some ⟨g, 0, none⟩) (l2 + 1) cap) l1 (l2 + 1) xs (ys ++ [u]) := by
  have hsx := h.bel.size
  have k1 := (h.r1.alloc o).grown hg (own_blk_ne h.o2 h.r1 (by decide))
  have k2 := (h.r2.alloc o).grown hg (own_blk_ne h.o2 h.r2 (by decide))
  have k0 := (h.g.alloc o).grown hg (own_blk_ne h.o2 h.g (fun e => htc e.symm))
  have kb := (h.bel.alloc hsx o).grown hg (size_alloc_le hsx o) (fun k hk => (h.o2.lt k hk).1)
  have ko : w3.ownsRow w.heap.size 4 1 v1 l1 xs := by
    rcases h.ne with e | e | e
    · exact (h.o1.alloc o).kept hg (.inl e)
    · rw [e] at hg
      exact (h.o1.alloc o).kept hg (by cases hv : v1.ownBlock <;> simp)
    · exact (h.o1.alloc o).kept hg (.inr e)
  refine ⟨k0.far (by simp; omega) _, k1.far (by simp) _, by simpa using k2.set_ 2 (.slice (some ⟨g, 0, none⟩) (l2 + 1) cap), own_far ko (own_blk_ne ko k2 (by decide)) _, own_far ho (own_blk_ne ho k2 (by decide)) _, ?_, kb.setCell (by simp; try omega) _⟩
  rcases hl with e | e
  · rcases h.ne with e2 | e2 | e2
    · exact .inl e2
    · rw [e2] at e; cases e
    · exact .inr (.inr (by rw [e] at e2; exact e2))
  · cases hv : v1.ownBlock with
    | none => exact .inl rfl
    | some q =>
      have hq := (h.o1.lt q hv).2
      refine .inr (.inr ?_)
      simp [Value.ownBlock, e]
      omega
theorem Two.keep {B1 B2 : Option Addr} {n1 n2 c1 c2 : Nat} (h : Two w wr tc gc P Q (.slice B1 n1 c1) (.slice B2 n2 c2) n1 n2 xs ys) (hb : Below wr.heap.size wr w3) : Two w w3 tc gc P Q (.slice B1 n1 c1) (.slice B2 n2 c2) n1 n2 xs ys :=
  ⟨h.g.keep hb, h.r1.keep hb, h.r2.keep hb, own_below h.o1 hb, own_below h.o2 hb, h.ne, below_then h.bel hb⟩
end
/-- Two grids and an error, in new memory, apart. -/
def RetC (r : (Gd × Gd) × Int) (w : World) (e : Ending) (w' : World) : Prop :=
  ∃ A n c A' n' c', e = .returned (.tuple #[.agg #[.int .i64 r.1.1.w, .int .i64 r.1.1.h, .slice A n c], .agg #[.int .i64 r.1.2.w, .int .i64 r.1.2.h, .slice A' n' c'], .int .i64 r.2]) ∧
    w'.ownsRow w.heap.size 4 1 (.slice A n c) n (r.1.1.bits.map Value.bool) ∧ w'.ownsRow w.heap.size 4 1 (.slice A' n' c') n' (r.1.2.bits.map Value.bool) ∧
    ((Value.slice A n c).ownBlock = none ∨ (Value.slice A' n' c').ownBlock = none ∨ (Value.slice A n c).ownBlock ≠ (Value.slice A' n' c').ownBlock) ∧ Below w.heap.size w w'
end Go.Proofs.Ytmajmbfbnchbfaa
