/- Parts of the proof, in their order. -/
import Derived.Test.YtmajmbfbnchbfaaPlainz
import Derived.Test.YtmajmbfbnchbfaaLibz
import Derived.ChangeOld
import Derived.Carry
/- Plain data of a grid, the error that Check gives, and what the operations of layer 1 make of grids. No program in sight. -/
namespace Go.Proofs.Ytmajmbfbnchbfaa
open Go.RowKit

/-- The error of a grid with sides W and H and n cells. -/
def chk (W H : Int) (n : Nat) : Int := if 64 < W ∨ 64 < H then 4 else if W < 1 ∨ H < 1 ∨ (n : Int) ≠ W * H then 8 else 0

theorem chk_big {W H : Int} {n : Nat} (h : 64 < W ∨ 64 < H) : chk W H n = 4 := by unfold chk; rw [if_pos h]
theorem chk_bad {W H : Int} {n : Nat} (h1 : W ≤ 64) (h2 : H ≤ 64) (h : W < 1 ∨ H < 1 ∨ (n : Int) ≠ W * H) : chk W H n = 8 := by
  unfold chk; rw [if_neg (by omega), if_pos h]
theorem chk_ok {W H : Int} {n : Nat} (h1 : W ≤ 64) (h2 : H ≤ 64) (h3 : 1 ≤ W) (h4 : 1 ≤ H) (h : (n : Int) = W * H) : chk W H n = 0 := by
  unfold chk; rw [if_neg (by omega), if_neg (by omega)]
/-- A grid without an error has sides from 1 to 64, and as many cells. -/
theorem chk_zero {W H : Int} {n : Nat} (h : chk W H n = 0) : ∃ a b : Nat, W = (a : Int) ∧ H = (b : Int) ∧ 1 ≤ a ∧ a ≤ 64 ∧ 1 ≤ b ∧ b ≤ 64 ∧ n = b * a := by
  unfold chk at h
  split at h
  · omega
  · split at h
    · omega
    · rename_i h1 h2
      have e : (n : Int) = W * H := by
        rcases Decidable.em ((n : Int) = W * H) with e | e
        · exact e
        · exact absurd (Or.inr (Or.inr e)) h2
      refine ⟨W.toNat, H.toNat, by omega, by omega, by omega, by omega, by omega, by omega, ?_⟩
      have e1 : W = (W.toNat : Int) := by omega
      have e2 : H = (H.toNat : Int) := by omega
      rw [e1, e2, ← Int.natCast_mul] at e
      rw [Nat.mul_comm]
      exact_mod_cast e
theorem mul_wrap {W H : Int} (h1 : W ≤ 64) (h2 : H ≤ 64) (h3 : 1 ≤ W) (h4 : 1 ≤ H) : wrap64 (W * H) = W * H := by
  have a : 0 ≤ W * H := Int.mul_nonneg (by omega) (by omega)
  have b : W * H ≤ 64 * 64 := Int.mul_le_mul h1 h2 (by omega) (by omega)
  exact IntWalk.wrap64_in _ ⟨by omega, by omega⟩

/-- A grid, as plain data. -/
structure Gd where
  w : Int
  h : Int
  bits : List Bool
def Gd.zero : Gd := ⟨0, 0, []⟩
def chkG (g : Gd) : Int := chk g.w g.h g.bits.length

/-- What a function that hands back a grid and an error gives: the grid in new memory. -/
def RetG (r : Gd × Int) (w : World) (e : Ending) (w' : World) : Prop :=
  ∃ A n c, e = .returned (.tuple #[.agg #[.int .i64 r.1.w, .int .i64 r.1.h, .slice A n c], .int .i64 r.2]) ∧ w'.ownsRow w.heap.size 4 1 (.slice A n c) n (r.1.bits.map Value.bool) ∧ Below w.heap.size w w'

/-- What a function that hands back a grid alone gives. -/
def RetT (g : Gd) (w : World) (e : Ending) (w' : World) : Prop :=
  ∃ A n c, e = .returned (.agg #[.int .i64 g.w, .int .i64 g.h, .slice A n c]) ∧ w'.ownsRow w.heap.size 4 1 (.slice A n c) n (g.bits.map Value.bool) ∧ Below w.heap.size w w'

def notG (g : Gd) : Gd × Int := if chkG g = 0 then (⟨g.w, g.h, g.bits.map fun b => !b⟩, 0) else (Gd.zero, chkG g)
theorem notG_ok {g : Gd} (h : chkG g = 0) : notG g = (⟨g.w, g.h, g.bits.map fun b => !b⟩, 0) := if_pos h
theorem notG_bad {g : Gd} (h : chkG g ≠ 0) : notG g = (Gd.zero, chkG g) := if_neg h

/-- The error of two grids of the same size. -/
def bothG (a b : Gd) : Int := if chkG a ≠ 0 then chkG a else if chkG b ≠ 0 then chkG b else if a.w ≠ b.w ∨ a.h ≠ b.h then 2 else 0
/-- The error of two grids, whatever their sizes. -/
def both2 (a b : Gd) : Int := if chkG a ≠ 0 then chkG a else chkG b
def joinG (p : Bool → Bool → Bool) (a b : Gd) : Gd × Int := if bothG a b = 0 then (⟨a.w, a.h, List.zipWith p a.bits b.bits⟩, 0) else (Gd.zero, bothG a b)
theorem joinG_ok {p : Bool → Bool → Bool} {a b : Gd} (h : bothG a b = 0) : joinG p a b = (⟨a.w, a.h, List.zipWith p a.bits b.bits⟩, 0) := if_pos h
theorem joinG_bad {p : Bool → Bool → Bool} {a b : Gd} (h : bothG a b ≠ 0) : joinG p a b = (Gd.zero, bothG a b) := if_neg h
theorem bothG_zero {a b : Gd} (h : bothG a b = 0) : chkG a = 0 ∧ chkG b = 0 ∧ a.w = b.w ∧ a.h = b.h := by
  unfold bothG at h
  split at h
  · contradiction
  · split at h
    · contradiction
    · split at h
      · omega
      · rename_i h1 h2 h3
        exact ⟨by omega, by omega, by omega, by omega⟩

theorem chkG_small {g : Gd} (h : chkG g = 0) : g.bits.length ≤ 4096 := by
  unfold chkG at h
  obtain ⟨a, b, _, _, _, h1, _, h2, h3⟩ := chk_zero h
  rw [h3]
  exact Nat.mul_le_mul h2 h1
theorem notG_small (g : Gd) : (notG g).1.bits.length ≤ 4096 := by
  by_cases h : chkG g = 0
  · rw [notG_ok h]; simpa using chkG_small h
  · rw [notG_bad h]; simp [Gd.zero]
theorem joinG_small (p : Bool → Bool → Bool) (a b : Gd) : (joinG p a b).1.bits.length ≤ 4096 := by
  by_cases h : bothG a b = 0
  · rw [joinG_ok h]
    have := chkG_small (bothG_zero h).1
    simp; omega
  · rw [joinG_bad h]; simp [Gd.zero]

end Go.Proofs.Ytmajmbfbnchbfaa
/- From the walk of a law to its row: the law answers true and turns nothing that was there. Nothing here names a function of the program. -/
namespace Go.Proofs.Ytmajmbfbnchbfaa
open Go.RowKit Go.ChangeShapes Go.WideShapes Go.ChangeAt

section
variable {H : Type} {enc : TypeId × Value → H} {P : Program}

/-- All arguments read behind the call as they read before it. -/
theorem trodAll_below {W W' : World} (hl : laidOutB P = true) (hb : Below W.heap.size W W') :
    ∀ {ts : List TypeId} {vs : List Value} {ds : List (DataW H)} {ps : List MemPlace}, (∀ t ∈ ts, P.readableRec t = true ∧ t < P.types.size) →
      (∀ x ∈ ps, x.block < W.heap.size) → DataW.TrodAll enc P W 0 (fun _ => true) true ts vs ds ps → DataW.TrodAll enc P W' 0 (fun b => decide (b < W.heap.size)) true ts vs ds ps
  | [], vs, ds, ps, _, _, h => by
    obtain ⟨rfl, rfl, rfl⟩ := trodAll_nil h
    exact trodAll_mk0
  | t :: ts, vs, ds, ps, ht, hp, h => by
    obtain ⟨v, vs', d, ds', p, q, rfl, rfl, rfl, h1, h2⟩ := trodAll_cons h
    exact trodAll_cons_mk (Below.trod hl (ht t (by simp)).1 (ht t (by simp)).2 h1 hb (fun x hx => hp x (List.mem_append.2 (Or.inl hx))))
      (trodAll_below hl hb (fun t' h' => ht t' (by simp [h'])) (fun x hx => hp x (List.mem_append.2 (Or.inr hx))) h2)

theorem trodAll_len {w : World} {base : Nat} {spare : Nat → Bool} {held : Bool} :
    ∀ {ts : List TypeId} {vs : List Value} {ds : List (DataW H)} {ps : List MemPlace}, DataW.TrodAll enc P w base spare held ts vs ds ps → ds.length = ts.length
  | [], vs, ds, ps, h => by
    obtain ⟨_, rfl, _⟩ := trodAll_nil h
    rfl
  | t :: ts, vs, ds, ps, h => by
    obtain ⟨v, vs', d, ds', p, q, rfl, rfl, rfl, h1, h2⟩ := trodAll_cons h
    simp [trodAll_len h2]

/-- What the law's walk is asked. -/
def LawWalk (P : Program) (f : FuncId) (ts : List TypeId) (enc : TypeId × Value → H) : Prop :=
  ∀ (W : World) (base : Nat) (args : Array Value) (ds : List (DataW H)) (ps : List MemPlace),
    (∀ (j : Nat) t v, ts[j]? = some t → args.toList[j]? = some v → Value.okWide P W .any base t v) →
    DataW.TrodAll enc P W 0 (fun _ => true) true ts args.toList ds ps → Calls P f args W fun e W' => e = .returned (.bool true) ∧ Below W.heap.size W W'

theorem law_lifted {C : Checked} {os : Os} {f : FuncId} {fn : Func} {s : ChangeSpec} {tb : TypeId} (own : ownKnob C.prog.godebug = none) (started : os.Started) (noInit : C.prog.inits.idxOf? f = none)
    (hfn : C.prog.funcs[f]? = some fn)
    (witness : ∃ (w : World) (tape : Tape) (i : Input), w.os = os ∧ (w.forCall tape i).Shaped C.prog ∧ i.vars = [] ∧ Input.okWide C.prog (w.forCall tape i) .any w.heap.size f i ∧
      s.pre6 enc C.prog fn [] false (w.forCall tape i).memory i.args ∧ Assume.holds {} C.prog (lone (Frame.enter C.prog f i.args .normal) [] (w.forCall tape i)))
    (hv : s.vars = []) (hspec : ∀ ds : List (DataW H), ds.length = fn.params.size → s.fn H (ds ++ []) = { results := [.lit (.bool true)], args := ds })
    (hres : fn.resultTypes = #[tb]) (hb : C.prog.underlying tb = some .bool) (laid : laidOutB C.prog = true) (hread : ∀ t ∈ fn.params.toList, C.prog.readableRec t = true ∧ t < C.prog.types.size)
    (walk : LawWalk C.prog f fn.params.toList enc) :
    ReturnsInHanded {} C os f .any (s.pre6 enc C.prog fn [] false) (s.post enc C.prog fn false true false false) := by
  refine returnsInHanded_of_change (C := C) own started noInit hfn witness ?_
  intro W base args ds gs before hval hW _ _
  have hW' := hW
  obtain ⟨p, q, hA, hV, rfl, _, _⟩ := hW
  rw [hv] at hV
  obtain ⟨rfl, rfl⟩ := trodVars_none hV
  have hlen : ds.length = fn.params.size := by
    have h1 := trodAll_len hA
    simpa using h1
  have hlt : ∀ x ∈ p, x.block < W.heap.size := fun x hx => by simpa using hW'.lt x (List.mem_append.2 (Or.inl hx))
  refine (walk W base args ds p (fun j t v h1 h2 => hval j t v (by simpa using h1) (by simpa using h2)) hA).mono fun e W' ⟨he, bel⟩ => ?_
  subst he
  have hs := hspec ds hlen
  refine ⟨_, rfl, ds, [], _, [], p, [], hW', ?_, ?_, ?_, bel.frame _, fun h => by cases h⟩
  · rw [hs, hres]
    exact trodAll_mk1 (shut_bool hb _)
  · rw [hs]
    exact trodAll_below laid bel hread hlt hA
  · rw [hs, hv]
    rfl
end
end Go.Proofs.Ytmajmbfbnchbfaa
