/- Parts of the proof, in their order. -/
import Derived.Test.YtliibficmdomjaaDoorMg1z
import Derived.Test.YtliibficmdomjaaDoorMg3z
import Derived.Test.YtliibficmdomjaaDoorMg2z
import Derived.BigQuiet
import Derived.Outline
/- The text of a grid: rows from the top. No program in sight. -/
namespace Go.Proofs.YtliibficmdomjaaDoor
open Go.RowKit

def ch (b : Bool) : UInt8 := if b then 120 else 46
/-- The text of one row. -/
def rowT (l : List Bool) : List UInt8 := l.map ch ++ [10]
/-- The rows k - 1 .. 0. -/
def downT (F : Nat → List UInt8) : Nat → List UInt8
  | 0 => []
  | k + 1 => F k ++ downT F k
def rowAt (a : Nat) (bs : List Bool) (y : Nat) : List Bool := (bs.drop (y * a)).take a
def textL (a b : Nat) (bs : List Bool) : List UInt8 := downT (fun y => rowT (rowAt a bs y)) b
def textG (g : Gd) : List UInt8 × Int := if chkG g = 0 then (textL g.w.toNat g.h.toNat g.bits, 0) else ([], chkG g)
theorem textG_ok {a b : Nat} {bs : List Bool} (h : chkG ⟨a, b, bs⟩ = 0) : textG ⟨a, b, bs⟩ = (textL a b bs, 0) := by unfold textG; rw [if_pos h]; rfl
theorem textG_bad {g : Gd} (h : chkG g ≠ 0) : textG g = ([], chkG g) := if_neg h
theorem rowAt_length {a b y : Nat} {bs : List Bool} (hl : bs.length = b * a) (hy : y < b) : (rowAt a bs y).length = a := by
  unfold rowAt
  rw [List.length_take, List.length_drop, hl]
  have := Nat.mul_le_mul_right a (show y + 1 ≤ b from hy)
  rw [Nat.succ_mul] at this
  omega
theorem rowT_length (l : List Bool) : (rowT l).length = l.length + 1 := by simp [rowT]
theorem downT_length {a : Nat} {F : Nat → List UInt8} : ∀ {k : Nat}, (∀ j, j < k → (F j).length = a) → (downT F k).length = k * a
  | 0, _ => by simp [downT]
  | k + 1, h => by
    have := downT_length (a := a) (F := F) (k := k) fun j hj => h j (by omega)
    show (F k ++ downT F k).length = _
    rw [List.length_append, h k (by omega), this, Nat.succ_mul]
    omega
theorem textL_length {a b : Nat} {bs : List Bool} (hl : bs.length = b * a) : (textL a b bs).length = b * (a + 1) :=
  downT_length fun j hj => by rw [rowT_length, rowAt_length hl hj]
end Go.Proofs.YtliibficmdomjaaDoor
/- raddleref02.Same of two lists that read the same. -/
namespace Go.Proofs.YtliibficmdomjaaDoor
open Go.RowKit

set_option maxHeartbeats 1000000 in
theorem lsame_any (xs : List Int) (A A' : Option Addr) (n n' c c' : Nat) (w : World) (hr : Rd w A n (xs.map (Value.int .i64))) (hr' : Rd w A' n' (xs.map (Value.int .i64))) (hn : n ≤ 1048576) :
    Calls Tryd.prog 27 #[.slice A n c, .slice A' n' c'] w fun e w' => e = .returned (.bool true) ∧ Below w.heap.size w w' := by
  have e1 := hr.len
  have e2 := hr'.len
  obtain rfl : n' = n := by omega
  clear e2
  have HN := Lib.hid e1
  clear e1
  go_enter Tryd.func27, Tryd.ntmps27
  go_wp2_with fail
  go_loopw [5] (fun i wr => ∃ x : Nat, x ≤ n' ∧ i = .int .i64 x ∧ Below w.heap.size w wr) (fun i _ => n' - (intOf i).toNat)
  case atStart => exact ⟨0, Nat.zero_le _, rfl, Below.refl _ _⟩
  case round =>
    obtain ⟨x, hx, rfl, hb⟩ := hrel
    by_cases hlt : x < n'
    · obtain ⟨b, o, hA, _, hc⟩ := (hr.below hb).at_ (by omega)
      obtain ⟨b', o', hA', _, hc'⟩ := (hr'.below hb).at_ (by omega)
      have hl : xs.length = n' := by have := HN.out; simpa using this
      have g0 := hc x (.int .i64 (xs.getD x 0)) (by rw [List.getElem?_map, List.getElem?_eq_getElem (by omega)]; simp [List.getD, show x < xs.length by omega])
      have g1 := hc' x (.int .i64 (xs.getD x 0)) (by rw [List.getElem?_map, List.getElem?_eq_getElem (by omega)]; simp [List.getD, show x < xs.length by omega])
      generalize xs.getD x 0 = z at *
      clear hc hc' hr hr' hl
      rw [hA, hA']
      clear hA hA'
      go_wp2_with fail
      go_quiet (fail)
      go_wp2_with fail
      go_roundw
      case rel => exact ⟨x + 1, by omega, by go_num, below_drewN hb _⟩
      case measure => simp [intOf]; omega
    · go_wp2_with fail
      go_ret
      exact ⟨rfl, hb⟩
end Go.Proofs.YtliibficmdomjaaDoor
/- raddleref02.Place of a number that is in the list. -/
namespace Go.Proofs.YtliibficmdomjaaDoor
open Go.RowKit

def placeN (xs : List Int) (x : Int) : Nat := xs.findIdx (· == x)
set_option maxHeartbeats 1000000 in
theorem place_any (xs : List Int) (x : Int) (A : Option Addr) (n c : Nat) (w : World) (hr : Rd w A n (xs.map (Value.int .i64))) (hn : n ≤ 1048576) (hx : x ∈ xs) :
    Calls Tryd.prog 19 #[.slice A n c, .int .i64 n, .int .i64 x] w fun e w' => e = .returned (.int .i64 (placeN xs x : Nat)) ∧ w' = w := by
  have hl : xs.length = n := by simpa using hr.len
  have hlt : placeN xs x < n := by rw [← hl]; exact List.findIdx_lt_length_of_exists ⟨x, hx, by simp⟩
  have hno : ∀ k, k < placeN xs x → xs.getD k 0 ≠ x := fun k hk => by
    have h1 := List.not_of_lt_findIdx hk
    rw [List.getD_eq_getElem?_getD, List.getElem?_eq_getElem (by omega), Option.getD_some]
    simpa using h1
  have hat : xs.getD (placeN xs x) 0 = x := by
    have h1 := List.findIdx_getElem (xs := xs) (p := (· == x)) (w := by unfold placeN at hlt; omega)
    rw [List.getD_eq_getElem?_getD, List.getElem?_eq_getElem (by omega), Option.getD_some]
    unfold placeN
    simpa using h1
  have hcell : ∀ (wr : World) (k : Nat), Rd wr A n (xs.map (Value.int .i64)) → k < n → ∃ b o, A = some ⟨b, o, none⟩ ∧ wr.cell? ⟨b, o + k, none⟩ = some (.int .i64 (xs.getD k 0)) := fun wr k hr hk => by
    obtain ⟨b, o, hA, _, hc⟩ := hr.at_ (by omega)
    exact ⟨b, o, hA, hc k _ (by rw [List.getElem?_map, List.getElem?_eq_getElem (by omega)]; simp [List.getD, show k < xs.length by omega])⟩
  generalize placeN xs x = p at *
  have HC := Lib.hid hcell
  have HNO := Lib.hid hno
  have HAT := Lib.hid hat
  clear hcell hno hat hl hx
  go_enter Tryd.func19, Tryd.ntmps19
  go_wp2_with fail
  go_loopw [7] (fun i wr => ∃ k : Nat, k ≤ p ∧ i = .int .i64 k ∧ wr = w) (fun i _ => p - (intOf i).toNat)
  case atStart => exact ⟨0, Nat.zero_le _, rfl, rfl⟩
  case round =>
    obtain ⟨k, hk, rfl, rfl⟩ := hrel
    obtain ⟨b, o, hA, g0⟩ := HC.out _ k hr (by omega)
    subst hA
    have hkn : k < n := by omega
    by_cases hlk : k < p
    · have hne := HNO.out k hlk
      generalize xs.getD k 0 = z at *
      have hzb : (z == x) = false := by simpa using hne
      go_wp2_with fail
      go_roundw
      case rel => exact ⟨k + 1, by omega, by go_num, by trivial⟩
      case measure => simp [intOf]; omega
    · have hkp : k = p := by omega
      have HE : Hid (xs.getD k 0 = x) := Lib.hid (by rw [hkp]; exact HAT.out)
      rw [HE.out] at g0
      have HK := Lib.hid hkp
      clear hkp hlk
      go_wp2_with fail
      go_ret
      exact ⟨by rw [HK.out]; rfl, rfl⟩
end Go.Proofs.YtliibficmdomjaaDoor
