/- Parts of the proof, in their order. -/
import Derived.Test.YtliibficmdomjaaLibz
import Derived.Laws.OwnMore
import Derived.Test.YtliibficmdomjaaGroupPz
/- What stands in memory as a list of facts, carried from call to call at once. Nothing here names a function of the program. -/
namespace Go.Proofs.Ytliibficmdomjaa
open Go.RowKit

theorem size_alloc1 (w : World) (o : Obj) : (w.alloc o).heap.size = w.heap.size + 1 := by simp

/-- What is read at an address that is known. -/
theorem Rd.lit {w : World} {b o n : Nat} {xs : List Value} (h : Rd w (some ⟨b, o, none⟩) n xs) : ∀ j u, xs[j]? = some u → w.cell? ⟨b, o + j, none⟩ = some u := fun j u hu => by
  have hn : 0 < n := by
    have h1 := (List.getElem?_eq_some_iff.1 hu).1
    have h2 := h.1
    omega
  obtain ⟨b', o', hA, hc⟩ := h.2 hn
  injection hA with e
  injection e with e1 e2
  subst e1 e2
  exact hc j u hu

/-- A block known whole, or a slice that reads some values. -/
inductive Fact where
  | blk (g : Nat) (t : TypeId) (cs : Array Value)
  | rd (A : Option Addr) (n : Nat) (xs : List Value)
def Fact.At : Fact → World → Prop
  | .blk g t cs, w => Blk w g t cs
  | .rd A n xs, w => Rd w A n xs

theorem Fact.keep {f : Fact} {w w' : World} (h : f.At w) (hb : Below w.heap.size w w') : f.At w' := by
  cases f with
  | blk g t cs => exact Blk.keep h hb
  | rd A n xs => exact Rd.below h hb
theorem Fact.drew {f : Fact} {w : World} (h : f.At w) : f.At w.drew := by
  cases f with
  | blk g t cs => exact Blk.drew h
  | rd A n xs => exact Rd.drew h
theorem Fact.drewN {f : Fact} {w : World} (h : f.At w) (k : Nat) : f.At (w.drewN k) := by
  cases f with
  | blk g t cs => exact Blk.drewN h k
  | rd A n xs => exact Rd.drewN h k

/-- All facts of a list hold, and nothing that was there in w has turned. -/
def St (w : World) (L : List Fact) (wi : World) : Prop := Below w.heap.size w wi ∧ ∀ f ∈ L, f.At wi

section
variable {w w1 w2 : World} {L : List Fact}
theorem St.start (w : World) : St w [] w := ⟨Below.refl _ _, by simp⟩
theorem St.below (h : St w L w1) : Below w.heap.size w w1 := h.1
theorem St.size (h : St w L w1) : w.heap.size ≤ w1.heap.size := h.1.size
theorem St.keep (h : St w L w1) (hb : Below w1.heap.size w1 w2) : St w L w2 := ⟨below_then h.1 hb, fun f hf => Fact.keep (h.2 f hf) hb⟩
theorem St.drew (h : St w L w1) : St w L w1.drew := ⟨h.1.drew, fun f hf => Fact.drew (h.2 f hf)⟩
theorem St.drewN (h : St w L w1) (k : Nat) : St w L (w1.drewN k) := ⟨below_drewN h.1 k, fun f hf => Fact.drewN (h.2 f hf) k⟩
theorem St.get (h : St w L w1) (i : Nat) {f : Fact} (e : L[i]? = some f) : f.At w1 := h.2 f (List.mem_of_getElem? e)
theorem St.blk (h : St w L w1) (i : Nat) {g : Nat} {t : TypeId} {cs : Array Value} (e : L[i]? = some (.blk g t cs)) : Blk w1 g t cs := h.get i e
theorem St.rd (h : St w L w1) (i : Nat) {A : Option Addr} {n : Nat} {xs : List Value} (e : L[i]? = some (.rd A n xs)) : Rd w1 A n xs := h.get i e
theorem St.add (h : St w L w1) {f : Fact} (hf : f.At w1) : St w (L ++ [f]) w1 := ⟨h.1, fun k hk => by
  rcases List.mem_append.1 hk with h1 | h1
  · exact h.2 k h1
  · rw [List.mem_singleton.1 h1]; exact hf⟩
theorem St.addRd (h : St w L w1) {A : Option Addr} {n : Nat} {xs : List Value} (hr : Rd w1 A n xs) : St w (L ++ [.rd A n xs]) w1 := h.add (f := .rd A n xs) hr
theorem St.addBlk (h : St w L w1) {g : Nat} {t : TypeId} {cs : Array Value} (hr : Blk w1 g t cs) : St w (L ++ [.blk g t cs]) w1 := h.add (f := .blk g t cs) hr
theorem St.alloc (h : St w L w1) (o : Obj) : St w L (w1.alloc o) := h.keep ((Below.refl _ _).alloc (Nat.le_refl _) o)
theorem St.box (h : St w L w1) (cs : Array Value) (t : TypeId) : St w (L ++ [.blk w1.heap.size t cs]) (w1.alloc (.cells cs t)) := (h.alloc _).addBlk (Blk.new w1 t cs)
/-- The facts with some of these indices alone, in this order. -/
theorem St.sub (h : St w L w1) {L' : List Fact} (hs : ∀ f ∈ L', f ∈ L) : St w L' w1 := ⟨h.1, fun f hf => h.2 f (hs f hf)⟩
end
/-- A block of the call's own is a row of it. -/
theorem own_of_blk {w : World} {g base : Nat} {e : TypeId} {cs : Array Value} (h : Blk w g e cs) (hb : base ≤ g) (hm : cs.size ≤ maxLen) : w.ownsRow base e 1 (.slice (some ⟨g, 0, none⟩) cs.size cs.size) cs.size cs.toList :=
  ⟨by simp, .inr ⟨g, cs.size, cs, rfl, hb, h, Nat.le_refl _, hm, by simp, List.take_of_length_le (by simp)⟩⟩
end Go.Proofs.Ytliibficmdomjaa
/- Whether two planes meet, as a function; the operations of a cloth as a list that can be computed. No program in sight. -/
namespace Go.Proofs.Ytliibficmdomjaa
open Go.RowKit

def meetN (g g' : Gd) : Bool :=
  let a := g.w.toNat; let b := g.h.toNat; let a' := g'.w.toNat; let b' := g'.h.toNat
  (List.range a').any fun x => (List.range b').any fun y => (List.range (Nat.lcm a a')).all fun X => (List.range (Nat.lcm b b')).all fun Y => pl a b g.bits (X : Int) (Y : Int) == pl a' b' g'.bits ((X : Int) + (x : Int)) ((Y : Int) + (y : Int))
theorem meetN_iff {g g' : Gd} (h1 : 1 ≤ g.w.toNat) (h2 : 1 ≤ g.h.toNat) (h3 : 1 ≤ g'.w.toNat) (h4 : 1 ≤ g'.h.toNat) : meetN g g' = true ↔ ∃ dx dy : Int, Meets g.w.toNat g.h.toNat g.bits g'.w.toNat g'.h.toNat g'.bits dx dy := by
  unfold meetN
  generalize g.w.toNat = a at *
  generalize g.h.toNat = b at *
  generalize g'.w.toNat = a' at *
  generalize g'.h.toNat = b' at *
  simp only [List.any_eq_true, List.all_eq_true, List.mem_range, beq_iff_eq]
  have r := fun x y : Nat => meets_range (a := a) (b := b) (bs := g.bits) (a' := a') (b' := b') (bs' := g'.bits) (dx := x) (dy := y) (Nat.dvd_lcm_left a a') (Nat.dvd_lcm_right a a') (Nat.dvd_lcm_left b b') (Nat.dvd_lcm_right b b') (Nat.lcm_pos h1 h3) (Nat.lcm_pos h2 h4)
  constructor
  · rintro ⟨x, _, y, _, h⟩
    exact ⟨x, y, (r x y).2 fun X Y hX hY => h X hX Y hY⟩
  · rintro ⟨dx, dy, hm⟩
    have x1 := Int.emod_nonneg dx (show (a' : Int) ≠ 0 by omega)
    have y1 := Int.emod_nonneg dy (show (b' : Int) ≠ 0 by omega)
    have x2 := Int.emod_lt_of_pos dx (show 0 < (a' : Int) by omega)
    have y2 := Int.emod_lt_of_pos dy (show 0 < (b' : Int) by omega)
    refine ⟨(dx % (a' : Int)).toNat, by omega, (dy % (b' : Int)).toNat, by omega, fun X hX Y hY => ?_⟩
    refine (r _ _).1 ?_ X Y hX hY
    intro X Y
    rw [Int.toNat_of_nonneg x1, Int.toNat_of_nonneg y1, hm X Y]
    exact pl_congr (by simp) (by simp)
/-- The operations by which one grid makes the cloth of the other. -/
def alkL (g g' : Gd) : List Int := ((List.range 16).filter fun m => meetN (appT g m) g').map Int.ofNat
theorem app_chk {a b m : Nat} {bs : List Bool} (ha1 : 1 ≤ a) (hb1 : 1 ≤ b) (ha : a ≤ 64) (hb : b ≤ 64) : chkG (appG a b bs m) = 0 := by
  unfold appG appB
  cases m.testBit 2
  · exact chk_tab (by simpa) (by simpa) (by simpa) (by simpa)
  · exact chk_tab (by simpa) (by simpa) (by simpa) (by simpa)
theorem both2_zero {g g' : Gd} (h : chkG g = 0) (h' : chkG g' = 0) : both2 g g' = 0 := by
  unfold both2; rw [if_neg (by omega)]; exact h'
theorem chkG_sides {g : Gd} (h : chkG g = 0) : ∃ a b : Nat, g.w = (a : Int) ∧ g.h = (b : Int) ∧ 1 ≤ a ∧ a ≤ 64 ∧ 1 ≤ b ∧ b ≤ 64 ∧ g.bits.length = b * a := chk_zero h
/-- Any function that tells the operations tells the list. -/
theorem alikeK_of {a b : Nat} {bs : List Bool} {g' : Gd} {S : Nat → Bool} (ha1 : 1 ≤ a) (hb1 : 1 ≤ b) (ha : a ≤ 64) (hb : b ≤ 64) (hg : chkG g' = 0) (hS : ∀ m, m < 16 → (S m = true ↔ Alk a b bs g' m)) {l : List Int} (h : AlikeK a b bs g' 16 l) :
    l = ((List.range 16).filter S).map Int.ofNat := by
  obtain ⟨a', b', e1, e2, h1, _, h2, _, _⟩ := chkG_sides hg
  refine alikeK_filter (fun m hm p e ho => ?_) (Nat.le_refl _) h
  rw [hS m hm]
  exact alk_off (both2_zero (app_chk ha1 hb1 ha hb) hg) (by rw [e1]; simpa) (by rw [e2]; simpa) ho
theorem alikeK_is {a b : Nat} {bs : List Bool} {g' : Gd} (ha1 : 1 ≤ a) (hb1 : 1 ≤ b) (ha : a ≤ 64) (hb : b ≤ 64) (hg : chkG g' = 0) {l : List Int} (h : AlikeK a b bs g' 16 l) : l = alkL ⟨a, b, bs⟩ g' := by
  obtain ⟨a', b', e1, e2, h1, _, h2, _, _⟩ := chkG_sides hg
  refine alikeK_of ha1 hb1 ha hb hg (fun m hm => ?_) h
  obtain ⟨P, Q, hP, hQ, eP, eQ⟩ := appG_sides (bs := bs) (m := m) ha1 hb1
  refine meetN_iff ?_ ?_ (by rw [e1]; simpa) (by rw [e2]; simpa)
  · show 1 ≤ (appG a b bs m).w.toNat
    rw [eP]; exact hP
  · show 1 ≤ (appG a b bs m).h.toNat
    rw [eQ]; exact hQ
theorem startG_zero {g : Gd} (h : startG g = 0) : chkG g = 0 ∧ g.w ≤ 16 ∧ g.h ≤ 16 := by
  unfold startG at h
  by_cases h1 : chkG g = 0
  · rw [if_neg (by omega)] at h
    by_cases h2 : 16 < g.w ∨ 16 < g.h
    · rw [if_pos h2] at h; omega
    · omega
  · rw [if_pos h1] at h; exact absurd h h1
theorem allR_is {g : Gd} {r : List Int × Int} (h0 : startG g = 0) (h : AllR g r) : r = (alkL g g, 0) := by
  unfold AllR at h
  rw [if_neg (by omega)] at h
  obtain ⟨l, h1, h2⟩ := h
  have hc := (startG_zero h0).1
  obtain ⟨a, b, e1, e2, ha1, ha, hb1, hb, _⟩ := chkG_sides hc
  obtain ⟨W, H, bs⟩ := g
  simp only at e1 e2
  subst e1 e2
  simp only [Int.toNat_natCast] at h1
  rw [h2, alikeK_is ha1 hb1 ha hb hc h1]
theorem alikeR_is {g g' : Gd} {r : List Int × Int} (h0 : startG g = 0) (h0' : startG g' = 0) (h : AlikeR g g' r) : r = (alkL g g', 0) := by
  have hc := (startG_zero h0).1
  have hc' := (startG_zero h0').1
  unfold AlikeR start2 at h
  rw [both2_zero hc hc', h0, h0'] at h
  simp only [ne_eq, not_true, if_false] at h
  obtain ⟨l, h1, h2⟩ := h
  obtain ⟨a, b, e1, e2, ha1, ha, hb1, hb, _⟩ := chkG_sides hc
  obtain ⟨W, H, bs⟩ := g
  simp only at e1 e2
  subst e1 e2
  simp only [Int.toNat_natCast] at h1
  rw [h2, alikeK_is ha1 hb1 ha hb hc' h1]
end Go.Proofs.Ytliibficmdomjaa
