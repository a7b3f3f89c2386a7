/- The text of a grid: rows from the top. No program in sight. -/
import Derived.Test.YtpfonniepinjnaaDoorGd
namespace Go.Proofs.YtpfonniepinjnaaDoor
open Go.RowKit

def ch (b : Bool) : UInt8 := if b then 120 else 46
/-- The text of one row. -/
def rowT (l : List Bool) : List UInt8 := l.map ch ++ [10]
/-- The rows k - 1 .. 0. -/
def downT (F : Nat → List UInt8) : Nat → List UInt8
  | 0 => []
  | k + 1 => F k ++ downT F k
def rowAt (a : Nat) (bs : List Bool) (y : Nat) : List Bool := (bs.drop (y * a)).take a
def textL (a b : Nat) (bs : List Bool) : List UInt8 := downT (fun y => rowT (rowAt a bs y)) b
def textG (g : Gd) : List UInt8 × Int := if chkG g = 0 then (textL g.w.toNat g.h.toNat g.bits, 0) else ([], chkG g)
theorem textG_ok {a b : Nat} {bs : List Bool} (h : chkG ⟨a, b, bs⟩ = 0) : textG ⟨a, b, bs⟩ = (textL a b bs, 0) := by unfold textG; rw [if_pos h]; rfl
theorem textG_bad {g : Gd} (h : chkG g ≠ 0) : textG g = ([], chkG g) := if_neg h
theorem rowAt_length {a b y : Nat} {bs : List Bool} (hl : bs.length = b * a) (hy : y < b) : (rowAt a bs y).length = a := by
  unfold rowAt
  rw [List.length_take, List.length_drop, hl]
  have := Nat.mul_le_mul_right a (show y + 1 ≤ b from hy)
  rw [Nat.succ_mul] at this
  omega
theorem rowT_length (l : List Bool) : (rowT l).length = l.length + 1 := by simp [rowT]
theorem downT_length {a : Nat} {F : Nat → List UInt8} : ∀ {k : Nat}, (∀ j, j < k → (F j).length = a) → (downT F k).length = k * a
  | 0, _ => by simp [downT]
  | k + 1, h => by
    have := downT_length (a := a) (F := F) (k := k) fun j hj => h j (by omega)
    show (F k ++ downT F k).length = _
    rw [List.length_append, h k (by omega), this, Nat.succ_mul]
    omega
theorem textL_length {a b : Nat} {bs : List Bool} (hl : bs.length = b * a) : (textL a b bs).length = b * (a + 1) :=
  downT_length fun j hj => by rw [rowT_length, rowAt_length hl hj]
end Go.Proofs.YtpfonniepinjnaaDoor
