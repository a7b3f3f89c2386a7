/- A list of numbers and an error, in new memory. -/
import Derived.Test.YtpfonniepinjnaaDoorInfoI
import Derived.Test.YtpfonniepinjnaaDoorLib
import Derived.Test.YtpfonniepinjnaaDoorSt
import Derived.Test.YtpfonniepinjnaaDoorChk
namespace Go.Proofs.YtpfonniepinjnaaDoor
open Go.RowKit
theorem own_le {w : World} {base : Nat} {e : TypeId} {A : Option Addr} {n c : Nat} {xs : List Value} (h : w.ownsRow base e 1 (.slice A n c) n xs) : n ≤ c := by
  obtain ⟨A', c', hv, h1, _⟩ := own_shape h
  injection hv with _ _ h3
  omega
def RetL (r : List Int × Int) (w : World) (e : Ending) (w' : World) : Prop :=
  ∃ A n c, e = .returned (.tuple #[.slice A n c, .int .i64 r.2]) ∧ w'.ownsRow w.heap.size 3 1 (.slice A n c) n (r.1.map (Value.int .i64)) ∧ Below w.heap.size w w'
theorem retL_bad {t : Int} {w w' : World} (hb : Below w.heap.size w w') : RetL ([], t) w (.returned (.tuple #[.slice none 0 0, .int .i64 t])) w' := ⟨none, 0, 0, rfl, World.ownsRow_nil _ _ _ _, hb⟩
end Go.Proofs.YtpfonniepinjnaaDoor
