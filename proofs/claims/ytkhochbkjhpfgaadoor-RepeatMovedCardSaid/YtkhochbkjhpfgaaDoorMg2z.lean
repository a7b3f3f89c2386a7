/- Parts of the proof, in their order. -/
import Derived.Test.YtkhochbkjhpfgaaDoorMg1z
import Derived.Handed
import Derived.Lay
import Derived.LaidMore
import Derived.ProofKit
import Derived.OpenShut
import Derived.Test.YtkhochbkjhpfgaaDoorProg
import Derived.Test.YtkhochbkjhpfgaaDoorGdz
import Derived.KernelRfl
import Derived.Test.YtkhochbkjhpfgaaDoorLibz
import Derived.Test.YtkhochbkjhpfgaaDoorStz
/- From the walk of a law to its row, where the row lists variables of the library: the law answers true and turns nothing that was there. Nothing here names a function of the program. -/
namespace Go.Proofs.YtkhochbkjhpfgaaDoor
open Go.RowKit Go.ChangeShapes Go.WideShapes Go.ChangeAt

section
variable {H : Type} {enc : TypeId × Value → H}
theorem law_laid {C : Checked} {os : Os} {f : FuncId} {fn : Func} {s : ChangeSpec} {tb : TypeId} {conds : List PathCond} {X : World → Array Value → Prop}
    (hX : ∀ (w w' : World) (args : Array Value), w.heap = w'.heap → X w args → X w' args)
    (own : ownKnob C.prog.godebug = none) (started : os.Started) (noInit : C.prog.inits.idxOf? f = none) (hfn : C.prog.funcs[f]? = some fn)
    (witness : ∃ (w : World) (tape : Tape) (i : Input), w.os = os ∧ (w.forCall tape i).Shaped C.prog ∧ i.vars = [] ∧ Input.okWide C.prog (w.forCall tape i) .any w.heap.size f i ∧
      ((s.pre enc C.prog fn conds false (w.forCall tape i).memory i.args ∧ X (w.forCall tape i).memory i.args) ∧ sizedMet enc C.prog fn (OpenSpec.ofChange s) false (w.forCall tape i).memory i.args) ∧ Assume.holds {} C.prog (lone (Frame.enter C.prog f i.args .normal) [] (w.forCall tape i)))
    (hv : s.vars = []) (hspec : ∀ ds : List (DataW H), ds.length = fn.params.size → s.fn H (ds ++ []) = { results := [.lit (.bool true)], args := ds })
    (hres : fn.resultTypes = #[tb]) (hb : C.prog.underlying tb = some .bool) (laid : laidOutB C.prog = true) (hread : ∀ t ∈ fn.params.toList, C.prog.readableRec t = true ∧ t < C.prog.types.size)
    (walk : LawWalk C.prog f fn.params.toList enc) :
    ReturnsInHanded {} C os f .any (fun w args => (s.pre enc C.prog fn conds false w args ∧ X w args) ∧ sizedMet enc C.prog fn (OpenSpec.ofChange s) false w args) (s.post enc C.prog fn false true false false) := by
  refine returnsInHanded_of_change_and (C := C) (X := X) hX own started noInit hfn witness ?_
  intro W base args ds gs before hval hW _ _ _ _
  have hW' := hW
  obtain ⟨p, q, hA, hV, rfl, _, _⟩ := hW
  rw [hv] at hV
  obtain ⟨rfl, rfl⟩ := trodVars_none hV
  have hlen : ds.length = fn.params.size := by
    have h1 := trodAll_len hA
    simpa using h1
  have hlt : ∀ x ∈ p, x.block < W.heap.size := fun x hx => by simpa using hW'.lt x (List.mem_append.2 (Or.inl hx))
  refine (walk W base args ds p (fun j t v h1 h2 => hval j t v (by simpa using h1) (by simpa using h2)) hA).mono fun e W' ⟨he, bel⟩ => ?_
  subst he
  have hs := hspec ds hlen
  refine ⟨_, rfl, ds, [], _, [], p, [], hW', ?_, ?_, ?_, bel.frame _, fun h => by cases h⟩
  · rw [hs, hres]
    exact trodAll_mk1 (shut_bool hb _)
  · rw [hs]
    exact trodAll_below laid bel hread hlt hA
  · rw [hs, hv]
    rfl
end
end Go.Proofs.YtkhochbkjhpfgaaDoor
/- grid.Check gives the error 'chk', for any grid. -/
namespace Go.Proofs.YtkhochbkjhpfgaaDoor
open Go.RowKit

theorem ret_i {k : IntKind} {a b : Int} (h : a = b) : Ending.returned (.int k a) = Ending.returned (.int k b) := by rw [h]

theorem check_any (W H : Int) (A : Option Addr) (n c : Nat) (w : World) :
    Calls Tryd.prog 29 #[.agg #[.int .i64 W, .int .i64 H, .slice A n c]] w fun e w' => e = .returned (.int .i64 (chk W H n)) ∧ Below w.heap.size w w' := by
  by_cases hb : 64 < W ∨ 64 < H
  · go_enter Tryd.func29, Tryd.ntmps29
    go_wp2
    all_goals (go_ret; exact ⟨ret_i (chk_big hb).symm, (Below.refl _ _).alloc (Nat.le_refl _) _⟩)
  by_cases hs : W < 1 ∨ H < 1
  · have hW : W ≤ 64 := by omega
    have hH : H ≤ 64 := by omega
    go_enter Tryd.func29, Tryd.ntmps29
    go_wp2
    all_goals (go_ret; exact ⟨ret_i (chk_bad hW hH (by omega)).symm, (Below.refl _ _).alloc (Nat.le_refl _) _⟩)
  have hW : W ≤ 64 := by omega
  have hH : H ≤ 64 := by omega
  have hW1 : 1 ≤ W := by omega
  have hH1 : 1 ≤ H := by omega
  have hm := mul_wrap hW hH hW1 hH1
  by_cases hl : (n : Int) = W * H
  · have hl' : ((n : Int) != wrap64 (W * H)) = false := by rw [hm, bne_eq_false_iff_eq]; exact hl
    have HL := Lib.hid hl; clear hl
    have HM := Lib.hid hm; clear hm
    go_enter Tryd.func29, Tryd.ntmps29
    go_wp2
    all_goals (go_ret; exact ⟨ret_i (chk_ok hW hH hW1 hH1 HL.out).symm, (Below.refl _ _).alloc (Nat.le_refl _) _⟩)
  · have hl' : ((n : Int) != wrap64 (W * H)) = true := by rw [hm, bne_iff_ne]; exact hl
    have HL := Lib.hid hl; clear hl
    have HM := Lib.hid hm; clear hm
    go_enter Tryd.func29, Tryd.ntmps29
    go_wp2
    all_goals (go_ret; exact ⟨ret_i (chk_bad hW hH (.inr (.inr HL.out))).symm, (Below.refl _ _).alloc (Nat.le_refl _) _⟩)
end Go.Proofs.YtkhochbkjhpfgaaDoor
/- A list of numbers and an error, in new memory. -/
namespace Go.Proofs.YtkhochbkjhpfgaaDoor
open Go.RowKit
theorem Tryd.infoI : (Tryd.prog.info? 3).map (fun i => (i.zero, i.size, i.bytes)) = some (some (.int .i64 0), 1, 8) := by kernel_rfl
theorem own_le {w : World} {base : Nat} {e : TypeId} {A : Option Addr} {n c : Nat} {xs : List Value} (h : w.ownsRow base e 1 (.slice A n c) n xs) : n ≤ c := by
  obtain ⟨A', c', hv, h1, _⟩ := own_shape h
  injection hv with _ _ h3
  omega
def RetL (r : List Int × Int) (w : World) (e : Ending) (w' : World) : Prop :=
  ∃ A n c, e = .returned (.tuple #[.slice A n c, .int .i64 r.2]) ∧ w'.ownsRow w.heap.size 3 1 (.slice A n c) n (r.1.map (Value.int .i64)) ∧ Below w.heap.size w w'
theorem retL_bad {t : Int} {w w' : World} (hb : Below w.heap.size w w') : RetL ([], t) w (.returned (.tuple #[.slice none 0 0, .int .i64 t])) w' := ⟨none, 0, 0, rfl, World.ownsRow_nil _ _ _ _, hb⟩
end Go.Proofs.YtkhochbkjhpfgaaDoor
/- The text of a grid: rows from the top. No program in sight. -/
namespace Go.Proofs.YtkhochbkjhpfgaaDoor
open Go.RowKit

def ch (b : Bool) : UInt8 := if b then 120 else 46
/-- The text of one row. -/
def rowT (l : List Bool) : List UInt8 := l.map ch ++ [10]
/-- The rows k - 1 .. 0. -/
def downT (F : Nat → List UInt8) : Nat → List UInt8
  | 0 => []
  | k + 1 => F k ++ downT F k
def rowAt (a : Nat) (bs : List Bool) (y : Nat) : List Bool := (bs.drop (y * a)).take a
def textL (a b : Nat) (bs : List Bool) : List UInt8 := downT (fun y => rowT (rowAt a bs y)) b
def textG (g : Gd) : List UInt8 × Int := if chkG g = 0 then (textL g.w.toNat g.h.toNat g.bits, 0) else ([], chkG g)
theorem textG_ok {a b : Nat} {bs : List Bool} (h : chkG ⟨a, b, bs⟩ = 0) : textG ⟨a, b, bs⟩ = (textL a b bs, 0) := by unfold textG; rw [if_pos h]; rfl
theorem textG_bad {g : Gd} (h : chkG g ≠ 0) : textG g = ([], chkG g) := if_neg h
theorem rowAt_length {a b y : Nat} {bs : List Bool} (hl : bs.length = b * a) (hy : y < b) : (rowAt a bs y).length = a := by
  unfold rowAt
  rw [List.length_take, List.length_drop, hl]
  have := Nat.mul_le_mul_right a (show y + 1 ≤ b from hy)
  rw [Nat.succ_mul] at this
  omega
theorem rowT_length (l : List Bool) : (rowT l).length = l.length + 1 := by simp [rowT]
theorem downT_length {a : Nat} {F : Nat → List UInt8} : ∀ {k : Nat}, (∀ j, j < k → (F j).length = a) → (downT F k).length = k * a
  | 0, _ => by simp [downT]
  | k + 1, h => by
    have := downT_length (a := a) (F := F) (k := k) fun j hj => h j (by omega)
    show (F k ++ downT F k).length = _
    rw [List.length_append, h k (by omega), this, Nat.succ_mul]
    omega
theorem textL_length {a b : Nat} {bs : List Bool} (hl : bs.length = b * a) : (textL a b bs).length = b * (a + 1) :=
  downT_length fun j hj => by rw [rowT_length, rowAt_length hl hj]
end Go.Proofs.YtkhochbkjhpfgaaDoor
