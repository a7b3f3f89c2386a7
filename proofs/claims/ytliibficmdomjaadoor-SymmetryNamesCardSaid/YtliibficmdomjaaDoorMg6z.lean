/- Parts of the proof, in their order. -/
import Derived.Test.YtliibficmdomjaaDoorLibz
import Derived.Test.YtliibficmdomjaaDoorMg3z
import Derived.Test.YtliibficmdomjaaDoorMg2z
import Derived.Test.YtliibficmdomjaaDoorMg4z
import Derived.Test.YtliibficmdomjaaDoorMg5z
import Derived.Test.YtliibficmdomjaaDoorSym1z
/- A list of numbers and an error, in new memory. -/
namespace Go.Proofs.YtliibficmdomjaaDoor
open Go.RowKit
theorem Tryd.infoI : (Tryd.prog.info? 3).map (fun i => (i.zero, i.size, i.bytes)) = some (some (.int .i64 0), 1, 8) := by kernel_rfl
theorem own_le {w : World} {base : Nat} {e : TypeId} {A : Option Addr} {n c : Nat} {xs : List Value} (h : w.ownsRow base e 1 (.slice A n c) n xs) : n ≤ c := by
  obtain ⟨A', c', hv, h1, _⟩ := own_shape h
  injection hv with _ _ h3
  omega
def RetL (r : List Int × Int) (w : World) (e : Ending) (w' : World) : Prop :=
  ∃ A n c, e = .returned (.tuple #[.slice A n c, .int .i64 r.2]) ∧ w'.ownsRow w.heap.size 3 1 (.slice A n c) n (r.1.map (Value.int .i64)) ∧ Below w.heap.size w w'
theorem retL_bad {t : Int} {w w' : World} (hb : Below w.heap.size w w') : RetL ([], t) w (.returned (.tuple #[.slice none 0 0, .int .i64 t])) w' := ⟨none, 0, 0, rfl, World.ownsRow_nil _ _ _ _, hb⟩
end Go.Proofs.YtliibficmdomjaaDoor
/- The type int's entry; what alike hands back. -/
namespace Go.Proofs.YtliibficmdomjaaDoor
open Go.RowKit
/-- The operations by which two grids are alike, in new memory. -/
def AlRet (a b : Nat) (bs : List Bool) (g' : Gd) (w : World) (e : Ending) (w' : World) : Prop :=
  ∃ l A n c, AlikeK a b bs g' 16 l ∧ e = .returned (.slice A n c) ∧ w'.ownsRow w.heap.size 3 1 (.slice A n c) n (l.map (Value.int .i64)) ∧ Below w.heap.size w w'
def HasRet (g : Gd) (op : Int) (w : World) (e : Ending) (w' : World) : Prop :=
  ∃ r, HasR g op r ∧ e = .returned (.tuple #[.bool r.1.1, .agg #[.int .i64 r.1.2.1, .int .i64 r.1.2.2], .int .i64 r.2]) ∧ Below w.heap.size w w'
def AllRet (g : Gd) (w : World) (e : Ending) (w' : World) : Prop := ∃ r, AllR g r ∧ RetL r w e w'
def AlikeRet (g g' : Gd) (w : World) (e : Ending) (w' : World) : Prop := ∃ r, AlikeR g g' r ∧ RetL r w e w'
theorem hasR_bad {g : Gd} {op t : Int} (h : startG g = t) (ht : t ≠ 0) : HasR g op ((false, 0, 0), t) := by subst h; unfold HasR; rw [if_pos ht]
theorem hasR_arg {g : Gd} {op : Int} (h : startG g = 0) (ho : op < 0 ∨ 16 ≤ op) : HasR g op ((false, 0, 0), 2) := by unfold HasR; rw [if_neg (by omega), if_pos ho]
theorem hasR_ok {a b op : Nat} {bs : List Bool} {px py pe : Int} (h : startG ⟨a, b, bs⟩ = 0) (ho : op < 16) (hR : OffR ⟨a, b, bs⟩ (appG a b bs op) ((px, py), pe)) : HasR ⟨a, b, bs⟩ op ((decide (pe = 0), px, py), 0) := by
  unfold HasR
  rw [if_neg (by omega), if_neg (by omega)]
  exact ⟨(px, py), pe, hR, rfl⟩
theorem allR_bad {g : Gd} {t : Int} (h : startG g = t) (ht : t ≠ 0) : AllR g ([], t) := by subst h; unfold AllR; rw [if_pos ht]
theorem allR_ok {a b : Nat} {bs : List Bool} {l : List Int} (h : startG ⟨a, b, bs⟩ = 0) (hl : AlikeK a b bs ⟨a, b, bs⟩ 16 l) : AllR ⟨a, b, bs⟩ (l, 0) := by
  unfold AllR
  rw [if_neg (by omega)]
  exact ⟨l, hl, rfl⟩
theorem alikeR_bad {g g' : Gd} {t : Int} (h : start2 g g' = t) (ht : t ≠ 0) : AlikeR g g' ([], t) := by subst h; unfold AlikeR; rw [if_pos ht]
theorem alikeR_ok {a b : Nat} {bs : List Bool} {g' : Gd} {l : List Int} (h : start2 ⟨a, b, bs⟩ g' = 0) (hl : AlikeK a b bs g' 16 l) : AlikeR ⟨a, b, bs⟩ g' (l, 0) := by
  unfold AlikeR
  rw [if_neg (by omega)]
  exact ⟨l, hl, rfl⟩
theorem allR_small {g : Gd} {r : List Int × Int} (h : AllR g r) : r.1.length ≤ 16 := by
  unfold AllR at h
  split at h
  · rw [h]; simp
  · obtain ⟨l, hl, rfl⟩ := h
    exact hl.le
theorem alikeR_small {g g' : Gd} {r : List Int × Int} (h : AlikeR g g' r) : r.1.length ≤ 16 := by
  unfold AlikeR at h
  split at h
  · rw [h]; simp
  · obtain ⟨l, hl, rfl⟩ := h
    exact hl.le
theorem start2_zero {g g' : Gd} (h : start2 g g' = 0) : startG g = 0 ∧ startG g' = 0 := by
  unfold start2 at h
  split at h
  · contradiction
  · split at h
    · contradiction
    · exact ⟨by omega, h⟩
end Go.Proofs.YtliibficmdomjaaDoor
/- More on slices that are read: writes elsewhere. Nothing here names a function of the program. -/
namespace Go.Proofs.YtliibficmdomjaaDoor
open Go.RowKit

theorem Rd.grown2 {w w' : World} {A : Option Addr} {n : Nat} {xs : List Value} {row : Option Nat} (h : Rd w A n xs) (hg : w.grownBy w' row) (ho : ∀ b o, A = some ⟨b, o, none⟩ → 0 < n → some b ≠ row) : Rd w' A n xs := by
  refine ⟨h.1, fun hn => ?_⟩
  obtain ⟨b, o, hA, hb, hc⟩ := h.at_ hn
  exact ⟨b, o, hA, fun j u hu => (World.cell?_of_block (w := w) (a := ⟨b, o + j, none⟩) (hg.block b hb (ho b o hA hn))).trans (hc j u hu)⟩
theorem Rd.far {w : World} {A : Option Addr} {n : Nat} {xs : List Value} (h : Rd w A n xs) {p : Addr} (hp : ∀ b o, A = some ⟨b, o, none⟩ → 0 < n → b ≠ p.block) (u : Value) : Rd (w.setCell p u) A n xs := by
  refine ⟨h.1, fun hn => ?_⟩
  obtain ⟨b, o, hA, hb, hc⟩ := h.at_ hn
  exact ⟨b, o, hA, fun j v hv => (World.cell?_of_block (w := w) (a := ⟨b, o + j, none⟩) (Below.heap_setCell w p u b (fun e => hp b o hA hn e))).trans (hc j v hv)⟩

end Go.Proofs.YtliibficmdomjaaDoor
