/- Parts of the proof, in their order. -/
import Derived.Test.YtmajmbfbnchbfaaProg
import Derived.Test.YtmajmbfbnchbfaaMg2z
import Derived.Maps.OwnOps
import Derived.Maps.Views
import Derived.KernelRfl
import Derived.Test.YtmajmbfbnchbfaaMg3z
import Derived.Test.YtmajmbfbnchbfaaImz
import Derived.Lib.SliceRun
import Derived.Test.YtmajmbfbnchbfaaMg1z
import Derived.RegionTactic
import Derived.Handy
/- A map from numbers to numbers that the call has made: what it reads as. Nothing here names a function of the program. -/
namespace Go.Proofs.Ytmajmbfbnchbfaa
open Go.RowKit Go.Maps

theorem lawI : Keyed Try.prog 3 := int_keyed Try.underlying3
theorem zeroI (w : World) : (zeroValue 3).run Try.prog w = .ok (.int .i64 0) w := by kernel_rfl
/-- Block B is a map of at most n entries that reads as f. -/
def MapM (w : World) (B n : Nat) (f : Int → Int) : Prop := ∃ D : DataW Unit, w.ownsMap Try.prog 3 (plainElem Try.prog 3) B n D ∧ IsMap D ∧ ∀ v, D.atKey (.int .i64 v) (.lit (.int .i64 0)) = .lit (.int .i64 (f v))
section
variable {w w' : World} {B n : Nat} {f : Int → Int}
theorem MapM.made (w : World) : MapM (w.alloc (.map #[] 0)) w.heap.size 0 (fun _ => 0) := ⟨.map [], World.ownsMap_made _ _ _ _, isMap_empty, fun _ => rfl⟩
theorem MapM.lt (h : MapM w B n f) : B < w.heap.size := by obtain ⟨D, h1, _⟩ := h; exact h1.lt
theorem MapM.grown {row : Option Nat} (h : MapM w B n f) (hg : w.grownBy w' row) (hne : some B ≠ row) : MapM w' B n f := by
  obtain ⟨D, h1, h2⟩ := h
  exact ⟨D, h1.kept hg hne, h2⟩
theorem MapM.below (h : MapM w B n f) (hb : Below w.heap.size w w') : MapM w' B n f := h.grown (below_grown hb none) (by simp)
theorem MapM.alloc (h : MapM w B n f) (o : Obj) : MapM (w.alloc o) B n f := h.grown (World.grownBy_alloc w o none) (by simp)
theorem MapM.far (h : MapM w B n f) {p : Addr} (hp : B ≠ p.block) (u : Value) : MapM (w.setCell p u) B n f :=
  h.grown (row := some p.block) ⟨rfl, rfl, rfl, by simp [World.setCell], fun k _ hk => Below.heap_setCell w p u k (fun e => hk (by rw [e]))⟩ (fun e => hp (by injection e))
theorem MapM.ne_own (h : MapM w B n f) {base : Nat} {e : TypeId} {size m : Nat} {v : Value} {xs : List Value} (ho : w.ownsRow base e size v m xs) : some B ≠ v.ownBlock := by
  obtain ⟨D, ⟨es, ck, h1, _⟩, _⟩ := h
  rcases ho.2 with ⟨rfl, _⟩ | ⟨g', cap, cur, rfl, _, hh, _⟩
  · simp [Value.ownBlock]
  · intro he
    have : B = g' := by simpa [Value.ownBlock] using he
    subst this
    rw [h1] at hh
    cases hh
theorem MapM.ne_blk (h : MapM w B n f) {g : Nat} {t : TypeId} {cs : Array Value} (hg : Blk w g t cs) : B ≠ g := by
  obtain ⟨D, ⟨es, ck, h1, _⟩, _⟩ := h
  rintro rfl
  unfold Blk at hg
  rw [h1] at hg
  cases hg
theorem MapM.put {D : DataW Unit} {c d : Int} {g : Int → Int} (h : w.ownsMap Try.prog 3 (plainElem Try.prog 3) B n (D.put (.int .i64 c) (.lit (.int .i64 d)))) (hD : IsMap D) (hf : ∀ v, D.atKey (.int .i64 v) (.lit (.int .i64 0)) = .lit (.int .i64 (f v)))
    (hg : ∀ v, g v = if v = c then d else f v) : MapM w B n g := by
  refine ⟨_, h, hD.put _ _, fun v => ?_⟩
  rw [hg v]
  by_cases hv : v = c
  · subst hv
    rw [if_pos rfl]
    exact atKey_put_same hD (k := .int .i64 v) trivial _ _
  · rw [if_neg hv, atKey_put_other (fun e => hv (by injection e))]
    exact hf v
theorem MapM.at_ {D : DataW Unit} {c v : Int} (hf : ∀ v, D.atKey (.int .i64 v) (.lit (.int .i64 0)) = .lit (.int .i64 (f v))) (h : D.atKey (.int .i64 v) (.lit (.int .i64 0)) = .lit (.int .i64 c)) : c = f v := by
  rw [hf] at h
  injection h with h
  injection h with _ h
  exact h.symm
end
end Go.Proofs.Ytmajmbfbnchbfaa
/- slices.Clone of ints: the same numbers in new memory. -/
namespace Go.Proofs.Ytmajmbfbnchbfaa
open Go.RowKit

set_option maxHeartbeats 4000000 in
set_option maxRecDepth 100000 in
theorem clone_any (ad : Addr) (n c : Nat) (xs : List Int) (w : World) (hr : Rd w (some ad) n (xs.map (Value.int .i64))) (hn : n ≤ 1048576) :
    Calls Try.prog 35 #[.slice (some ad) n c] w fun e w' => ∃ A' c', e = .returned (.slice A' n c') ∧ w'.ownsRow w.heap.size 3 1 (.slice A' n c') n (xs.map (Value.int .i64)) ∧ Below w.heap.size w w' := by
  obtain ⟨i0, hi, hz0, hz1, hz2⟩ := info_parts Try.infoI
  have hown0 : (w.alloc (.cells #[] 3)).drew.ownsRow w.heap.size 3 1 (.slice (some ⟨w.heap.size, 0, none⟩) 0 0) 0 [] := World.ownsRow_lit w #[] 0 (by omega) (Nat.zero_le _) rfl
  have hr0 : Rd (w.alloc (.cells #[] 3)).drew (some ad) n (xs.map (Value.int .i64)) := (hr.alloc _).drew
  have q22 : ∀ (w : World) (a : Option Addr) (n c n' c' : Nat), (binOp .eql 22 (.slice a n c) (.slice none n' c')).run Try.prog w = .ok (.bool a.isNone) w := fun w a n c n' c' => Lib.run_eql_slice_nil w _ _ a n c n' c' Try.underlying22
  have hB0 : Below w.heap.size w (w.alloc (.cells #[] 3)) := (Below.refl _ _).alloc (Nat.le_refl _) _
  go_enter Try.func35, Try.ntmps35
  go_wp2_with (first
    | (at_builtin; go_loud (refine wpList_app_all _ rfl (.tmp 5) (.tmp 6) 22 rfl w.heap.size 3 i0 (.int .i64 0) 8 Try.underlying22 hi hz0 hz1 hz2 rfl (by decide) (.slice (some ⟨w.heap.size, 0, none⟩) 0 0) 0 [] rfl hown0 (some ad) n c _ rfl hr0 (oneCell_ints xs) (by omega) (by simp) ?_))
    | fail)
  intro A' c' w' hown hgr
  go_wp2_with fail
  go_ret
  exact ⟨A', c', rfl, hown, hB0.grown hgr (by simp) (fun k hk => by simp [Value.ownBlock] at hk; omega)⟩
end Go.Proofs.Ytmajmbfbnchbfaa
/- Small laws for comparing grids and images. Nothing here names a function of the program. -/
namespace Go.Proofs.Ytmajmbfbnchbfaa
open Go.RowKit

/-- Two grids are equal. -/
def sameG (a b : Gd) : Bool := decide (a.w = b.w ∧ a.h = b.h ∧ a.bits = b.bits)
theorem sameG_iff {a b : Gd} : sameG a b = true ↔ a = b := by
  obtain ⟨w, h, l⟩ := a
  obtain ⟨w', h', l'⟩ := b
  simp [sameG]
theorem sameG_self (a : Gd) : sameG a a = true := sameG_iff.2 rfl
theorem sameG_not {a b : Gd} (h : ¬ (a.w = b.w ∧ a.h = b.h ∧ a.bits = b.bits)) : sameG a b = false := by simp [sameG]; intro h1 h2 h3; exact h ⟨h1, h2, h3⟩
theorem ret_b {a b : Bool} (h : a = b) : Ending.returned (.bool a) = Ending.returned (.bool b) := by rw [h]

end Go.Proofs.Ytmajmbfbnchbfaa
