/- Parts of the proof, in their order. -/
import Derived.Test.YtliibficmdomjaaDoorPlainz
import Derived.Test.YtliibficmdomjaaDoorLibz
import Derived.Laws.OwnMore
/- Plain data of a grid, the error that Check gives, and what the operations of layer 1 make of grids. No program in sight. -/
namespace Go.Proofs.YtliibficmdomjaaDoor
open Go.RowKit

/-- The error of a grid with sides W and H and n cells. -/
def chk (W H : Int) (n : Nat) : Int := if 64 < W ∨ 64 < H then 4 else if W < 1 ∨ H < 1 ∨ (n : Int) ≠ W * H then 8 else 0

theorem chk_big {W H : Int} {n : Nat} (h : 64 < W ∨ 64 < H) : chk W H n = 4 := by unfold chk; rw [if_pos h]
theorem chk_bad {W H : Int} {n : Nat} (h1 : W ≤ 64) (h2 : H ≤ 64) (h : W < 1 ∨ H < 1 ∨ (n : Int) ≠ W * H) : chk W H n = 8 := by
  unfold chk; rw [if_neg (by omega), if_pos h]
theorem chk_ok {W H : Int} {n : Nat} (h1 : W ≤ 64) (h2 : H ≤ 64) (h3 : 1 ≤ W) (h4 : 1 ≤ H) (h : (n : Int) = W * H) : chk W H n = 0 := by
  unfold chk; rw [if_neg (by omega), if_neg (by omega)]
/-- A grid without an error has sides from 1 to 64, and as many cells. -/
theorem chk_zero {W H : Int} {n : Nat} (h : chk W H n = 0) : ∃ a b : Nat, W = (a : Int) ∧ H = (b : Int) ∧ 1 ≤ a ∧ a ≤ 64 ∧ 1 ≤ b ∧ b ≤ 64 ∧ n = b * a := by
  unfold chk at h
  split at h
  · omega
  · split at h
    · omega
    · rename_i h1 h2
      have e : (n : Int) = W * H := by
        rcases Decidable.em ((n : Int) = W * H) with e | e
        · exact e
        · exact absurd (Or.inr (Or.inr e)) h2
      refine ⟨W.toNat, H.toNat, by omega, by omega, by omega, by omega, by omega, by omega, ?_⟩
      have e1 : W = (W.toNat : Int) := by omega
      have e2 : H = (H.toNat : Int) := by omega
      rw [e1, e2, ← Int.natCast_mul] at e
      rw [Nat.mul_comm]
      exact_mod_cast e
theorem mul_wrap {W H : Int} (h1 : W ≤ 64) (h2 : H ≤ 64) (h3 : 1 ≤ W) (h4 : 1 ≤ H) : wrap64 (W * H) = W * H := by
  have a : 0 ≤ W * H := Int.mul_nonneg (by omega) (by omega)
  have b : W * H ≤ 64 * 64 := Int.mul_le_mul h1 h2 (by omega) (by omega)
  exact IntWalk.wrap64_in _ ⟨by omega, by omega⟩

/-- A grid, as plain data. -/
structure Gd where
  w : Int
  h : Int
  bits : List Bool
def Gd.zero : Gd := ⟨0, 0, []⟩
def chkG (g : Gd) : Int := chk g.w g.h g.bits.length

/-- What a function that hands back a grid and an error gives: the grid in new memory. -/
def RetG (r : Gd × Int) (w : World) (e : Ending) (w' : World) : Prop :=
  ∃ A n c, e = .returned (.tuple #[.agg #[.int .i64 r.1.w, .int .i64 r.1.h, .slice A n c], .int .i64 r.2]) ∧ w'.ownsRow w.heap.size 4 1 (.slice A n c) n (r.1.bits.map Value.bool) ∧ Below w.heap.size w w'

/-- What a function that hands back a grid alone gives. -/
def RetT (g : Gd) (w : World) (e : Ending) (w' : World) : Prop :=
  ∃ A n c, e = .returned (.agg #[.int .i64 g.w, .int .i64 g.h, .slice A n c]) ∧ w'.ownsRow w.heap.size 4 1 (.slice A n c) n (g.bits.map Value.bool) ∧ Below w.heap.size w w'

def notG (g : Gd) : Gd × Int := if chkG g = 0 then (⟨g.w, g.h, g.bits.map fun b => !b⟩, 0) else (Gd.zero, chkG g)
theorem notG_ok {g : Gd} (h : chkG g = 0) : notG g = (⟨g.w, g.h, g.bits.map fun b => !b⟩, 0) := if_pos h
theorem notG_bad {g : Gd} (h : chkG g ≠ 0) : notG g = (Gd.zero, chkG g) := if_neg h

/-- The error of two grids of the same size. -/
def bothG (a b : Gd) : Int := if chkG a ≠ 0 then chkG a else if chkG b ≠ 0 then chkG b else if a.w ≠ b.w ∨ a.h ≠ b.h then 2 else 0
/-- The error of two grids, whatever their sizes. -/
def both2 (a b : Gd) : Int := if chkG a ≠ 0 then chkG a else chkG b
def joinG (p : Bool → Bool → Bool) (a b : Gd) : Gd × Int := if bothG a b = 0 then (⟨a.w, a.h, List.zipWith p a.bits b.bits⟩, 0) else (Gd.zero, bothG a b)
theorem joinG_ok {p : Bool → Bool → Bool} {a b : Gd} (h : bothG a b = 0) : joinG p a b = (⟨a.w, a.h, List.zipWith p a.bits b.bits⟩, 0) := if_pos h
theorem joinG_bad {p : Bool → Bool → Bool} {a b : Gd} (h : bothG a b ≠ 0) : joinG p a b = (Gd.zero, bothG a b) := if_neg h
theorem bothG_zero {a b : Gd} (h : bothG a b = 0) : chkG a = 0 ∧ chkG b = 0 ∧ a.w = b.w ∧ a.h = b.h := by
  unfold bothG at h
  split at h
  · contradiction
  · split at h
    · contradiction
    · split at h
      · omega
      · rename_i h1 h2 h3
        exact ⟨by omega, by omega, by omega, by omega⟩

theorem chkG_small {g : Gd} (h : chkG g = 0) : g.bits.length ≤ 4096 := by
  unfold chkG at h
  obtain ⟨a, b, _, _, _, h1, _, h2, h3⟩ := chk_zero h
  rw [h3]
  exact Nat.mul_le_mul h2 h1
theorem notG_small (g : Gd) : (notG g).1.bits.length ≤ 4096 := by
  by_cases h : chkG g = 0
  · rw [notG_ok h]; simpa using chkG_small h
  · rw [notG_bad h]; simp [Gd.zero]
theorem joinG_small (p : Bool → Bool → Bool) (a b : Gd) : (joinG p a b).1.bits.length ≤ 4096 := by
  by_cases h : bothG a b = 0
  · rw [joinG_ok h]
    have := chkG_small (bothG_zero h).1
    simp; omega
  · rw [joinG_bad h]; simp [Gd.zero]

end Go.Proofs.YtliibficmdomjaaDoor
/- What stands in memory as a list of facts, carried from call to call at once. Nothing here names a function of the program. -/
namespace Go.Proofs.YtliibficmdomjaaDoor
open Go.RowKit

theorem size_alloc1 (w : World) (o : Obj) : (w.alloc o).heap.size = w.heap.size + 1 := by simp

/-- What is read at an address that is known. -/
theorem Rd.lit {w : World} {b o n : Nat} {xs : List Value} (h : Rd w (some ⟨b, o, none⟩) n xs) : ∀ j u, xs[j]? = some u → w.cell? ⟨b, o + j, none⟩ = some u := fun j u hu => by
  have hn : 0 < n := by
    have h1 := (List.getElem?_eq_some_iff.1 hu).1
    have h2 := h.1
    omega
  obtain ⟨b', o', hA, hc⟩ := h.2 hn
  injection hA with e
  injection e with e1 e2
  subst e1 e2
  exact hc j u hu

/-- A block known whole, or a slice that reads some values. -/
inductive Fact where
  | blk (g : Nat) (t : TypeId) (cs : Array Value)
  | rd (A : Option Addr) (n : Nat) (xs : List Value)
def Fact.At : Fact → World → Prop
  | .blk g t cs, w => Blk w g t cs
  | .rd A n xs, w => Rd w A n xs

theorem Fact.keep {f : Fact} {w w' : World} (h : f.At w) (hb : Below w.heap.size w w') : f.At w' := by
  cases f with
  | blk g t cs => exact Blk.keep h hb
  | rd A n xs => exact Rd.below h hb
theorem Fact.drew {f : Fact} {w : World} (h : f.At w) : f.At w.drew := by
  cases f with
  | blk g t cs => exact Blk.drew h
  | rd A n xs => exact Rd.drew h
theorem Fact.drewN {f : Fact} {w : World} (h : f.At w) (k : Nat) : f.At (w.drewN k) := by
  cases f with
  | blk g t cs => exact Blk.drewN h k
  | rd A n xs => exact Rd.drewN h k

/-- All facts of a list hold, and nothing that was there in w has turned. -/
def St (w : World) (L : List Fact) (wi : World) : Prop := Below w.heap.size w wi ∧ ∀ f ∈ L, f.At wi

section
variable {w w1 w2 : World} {L : List Fact}
theorem St.start (w : World) : St w [] w := ⟨Below.refl _ _, by simp⟩
theorem St.below (h : St w L w1) : Below w.heap.size w w1 := h.1
theorem St.size (h : St w L w1) : w.heap.size ≤ w1.heap.size := h.1.size
theorem St.keep (h : St w L w1) (hb : Below w1.heap.size w1 w2) : St w L w2 := ⟨below_then h.1 hb, fun f hf => Fact.keep (h.2 f hf) hb⟩
theorem St.drew (h : St w L w1) : St w L w1.drew := ⟨h.1.drew, fun f hf => Fact.drew (h.2 f hf)⟩
theorem St.drewN (h : St w L w1) (k : Nat) : St w L (w1.drewN k) := ⟨below_drewN h.1 k, fun f hf => Fact.drewN (h.2 f hf) k⟩
theorem St.get (h : St w L w1) (i : Nat) {f : Fact} (e : L[i]? = some f) : f.At w1 := h.2 f (List.mem_of_getElem? e)
theorem St.blk (h : St w L w1) (i : Nat) {g : Nat} {t : TypeId} {cs : Array Value} (e : L[i]? = some (.blk g t cs)) : Blk w1 g t cs := h.get i e
theorem St.rd (h : St w L w1) (i : Nat) {A : Option Addr} {n : Nat} {xs : List Value} (e : L[i]? = some (.rd A n xs)) : Rd w1 A n xs := h.get i e
theorem St.add (h : St w L w1) {f : Fact} (hf : f.At w1) : St w (L ++ [f]) w1 := ⟨h.1, fun k hk => by
  rcases List.mem_append.1 hk with h1 | h1
  · exact h.2 k h1
  · rw [List.mem_singleton.1 h1]; exact hf⟩
theorem St.addRd (h : St w L w1) {A : Option Addr} {n : Nat} {xs : List Value} (hr : Rd w1 A n xs) : St w (L ++ [.rd A n xs]) w1 := h.add (f := .rd A n xs) hr
theorem St.addBlk (h : St w L w1) {g : Nat} {t : TypeId} {cs : Array Value} (hr : Blk w1 g t cs) : St w (L ++ [.blk g t cs]) w1 := h.add (f := .blk g t cs) hr
theorem St.alloc (h : St w L w1) (o : Obj) : St w L (w1.alloc o) := h.keep ((Below.refl _ _).alloc (Nat.le_refl _) o)
theorem St.box (h : St w L w1) (cs : Array Value) (t : TypeId) : St w (L ++ [.blk w1.heap.size t cs]) (w1.alloc (.cells cs t)) := (h.alloc _).addBlk (Blk.new w1 t cs)
/-- The facts with some of these indices alone, in this order. -/
theorem St.sub (h : St w L w1) {L' : List Fact} (hs : ∀ f ∈ L', f ∈ L) : St w L' w1 := ⟨h.1, fun f hf => h.2 f (hs f hf)⟩
end
/-- A block of the call's own is a row of it. -/
theorem own_of_blk {w : World} {g base : Nat} {e : TypeId} {cs : Array Value} (h : Blk w g e cs) (hb : base ≤ g) (hm : cs.size ≤ maxLen) : w.ownsRow base e 1 (.slice (some ⟨g, 0, none⟩) cs.size cs.size) cs.size cs.toList :=
  ⟨by simp, .inr ⟨g, cs.size, cs, rfl, hb, h, Nat.le_refl _, hm, by simp, List.take_of_length_le (by simp)⟩⟩
end Go.Proofs.YtliibficmdomjaaDoor
