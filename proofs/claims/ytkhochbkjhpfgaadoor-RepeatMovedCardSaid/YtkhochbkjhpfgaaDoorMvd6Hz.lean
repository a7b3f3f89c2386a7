/- The law RepeatMoved: the calls' contracts. -/
import Derived.Test.YtkhochbkjhpfgaaDoorAlive6z
import Derived.Test.YtkhochbkjhpfgaaDoorIn6z
import Derived.Test.YtkhochbkjhpfgaaDoorMovedPz
import Derived.Test.YtkhochbkjhpfgaaDoorMoves6z
import Derived.Test.YtkhochbkjhpfgaaDoorShiftz
import Derived.Test.YtkhochbkjhpfgaaDoorTileAz
import Derived.Test.YtkhochbkjhpfgaaDoorValid6z
namespace Go.Proofs.YtkhochbkjhpfgaaDoor
open Go.RowKit

theorem in_to {A B C dx dy : Int} {b : Bool} (h : chkL A B C = 0) (hb : inV A B C dx dy = b) (X Y : Int) (hX : X = dx) (hY : Y = dy) (hy1 : -9223372036854775808 ≤ dy) (hy2 : dy ≤ 9223372036854775807) (w : World) :
    Calls Tryd.prog 11 #[.agg #[.int .i64 A, .int .i64 B, .int .i64 C], .int .i64 X, .int .i64 Y] w fun e w' => e = .returned (.tuple #[.bool b, .int .i64 0]) ∧ Below w.heap.size w w' := by
  subst hX hY
  have := in_any A B C X Y w hy1 hy2
  rw [inL_ok h, hb] at this
  exact this
theorem chkL_ok {A B C : Int} (h1 : 1 ≤ A) (h2 : A ≤ 64) (h3 : 1 ≤ C) (h4 : C ≤ 64) (h5 : 0 ≤ B) (h6 : B < A) : chkL A B C = 0 := by unfold chkL; rw [if_neg (by omega)]
/-- What a call gives that hands back a grid without an error. -/
def RetD (g : Gd) (w : World) (e : Ending) (w' : World) : Prop :=
  ∃ A n c, e = .returned (.tuple #[.agg #[.int .i64 g.w, .int .i64 g.h, .slice A n c], .int .i64 0]) ∧ w'.ownsRow w.heap.size 4 1 (.slice A n c) n (g.bits.map Value.bool) ∧ Below w.heap.size w w'
theorem shift_d {r : Gd} (g : Gd) (dx dy : Int) (A : Option Addr) (n c : Nat) (w : World) (h : shiftG g dx dy = (r, 0)) (hr : Rd w A n (g.bits.map Value.bool)) :
    Calls Tryd.prog 21 #[.agg #[.int .i64 g.w, .int .i64 g.h, .slice A n c], .int .i64 dx, .int .i64 dy] w (RetD r w) := (h ▸ shift_any g dx dy A n c w hr).mono fun _ _ h => h
theorem tile_to {r : Gd × Int} (g : Gd) (X Y : Int) (A : Option Addr) (n c : Nat) (w : World) (h : tileG g X Y = r) (hr : Rd w A n (g.bits.map Value.bool)) :
    Calls Tryd.prog 20 #[.agg #[.int .i64 g.w, .int .i64 g.h, .slice A n c], .int .i64 X, .int .i64 Y] w (RetG r w) := h ▸ tile_any g X Y A n c w hr
theorem of_d {a b A B C : Nat} {bs : List Bool} (hck : chkG ⟨a, b, bs⟩ = 0) (hA : latA a b bs = A) (hB : latB a b bs = B) (hC : latC a b bs = C) (A0 : Option Addr) (n c : Nat) (w : World) (hr : Rd w A0 n (bs.map Value.bool)) (hc : n ≤ c) :
    Calls Tryd.prog 13 #[.agg #[.int .i64 a, .int .i64 b, .slice A0 n c]] w fun e w' => e = .returned (.tuple #[.agg #[.int .i64 A, .int .i64 B, .int .i64 C], .int .i64 0]) ∧ Below w.heap.size w w' := by
  have h := of_any ⟨a, b, bs⟩ A0 n c w hr hc
  rw [ofG_ok hck, hA, hB, hC] at h
  exact h
/-- An offset that is there. -/
theorem off_d {a b a' b' : Nat} {bs bs' : List Bool} (hck : chkG ⟨a, b, bs⟩ = 0) (hck' : chkG ⟨a', b', bs'⟩ = 0) (ha' : 1 ≤ a') (hb' : 1 ≤ b') {dx dy : Int} (h : Meets a b bs a' b' bs' dx dy) (A A' : Option Addr) (n c n' c' : Nat) (w : World)
    (hr : Rd w A n (bs.map Value.bool)) (hr' : Rd w A' n' (bs'.map Value.bool)) (hc : n ≤ c) (hc' : n' ≤ c') :
    Calls Tryd.prog 22 #[.agg #[.int .i64 a, .int .i64 b, .slice A n c], .agg #[.int .i64 a', .int .i64 b', .slice A' n' c']] w fun e w' => ∃ x y : Nat, IsOff a b bs a' b' bs' x y ∧ e = .returned (.tuple #[.agg #[.int .i64 x, .int .i64 y], .int .i64 0]) ∧ Below w.heap.size w w' :=
  (offset_any ⟨a, b, bs⟩ ⟨a', b', bs'⟩ A A' n c n' c' w hr hr' hc hc').mono fun e w' k => by
    obtain ⟨r, hR, rfl, hb⟩ := k
    obtain ⟨x, y, hi, rfl⟩ := offR_meets (both2_ok hck hck') ha' hb' h hR
    exact ⟨x, y, hi, rfl, hb⟩
theorem off_z {a b a' b' : Nat} {bs bs' : List Bool} (hck : chkG ⟨a, b, bs⟩ = 0) (hck' : chkG ⟨a', b', bs'⟩ = 0) (ha' : 1 ≤ a') (hb' : 1 ≤ b') {dx dy : Int} (h : Meets a b bs a' b' bs' dx dy) (hz : ∀ x y, IsOff a b bs a' b' bs' x y → x = 0 ∧ y = 0) (A A' : Option Addr) (n c n' c' : Nat) (w : World)
    (hr : Rd w A n (bs.map Value.bool)) (hr' : Rd w A' n' (bs'.map Value.bool)) (hc : n ≤ c) (hc' : n' ≤ c') :
    Calls Tryd.prog 22 #[.agg #[.int .i64 a, .int .i64 b, .slice A n c], .agg #[.int .i64 a', .int .i64 b', .slice A' n' c']] w fun e w' => e = .returned (.tuple #[.agg #[.int .i64 0, .int .i64 0], .int .i64 0]) ∧ Below w.heap.size w w' :=
  (off_d hck hck' ha' hb' h A A' n c n' c' w hr hr' hc hc').mono fun e w' k => by
    obtain ⟨x, y, hi, rfl, hb⟩ := k
    obtain ⟨rfl, rfl⟩ := hz x y hi
    exact ⟨rfl, hb⟩
theorem off_n {a b a' b' : Nat} {bs bs' : List Bool} (hck : chkG ⟨a, b, bs⟩ = 0) (hck' : chkG ⟨a', b', bs'⟩ = 0) (h : ∀ dx dy : Int, ¬ Meets a b bs a' b' bs' dx dy) (A A' : Option Addr) (n c n' c' : Nat) (w : World)
    (hr : Rd w A n (bs.map Value.bool)) (hr' : Rd w A' n' (bs'.map Value.bool)) (hc : n ≤ c) (hc' : n' ≤ c') :
    Calls Tryd.prog 22 #[.agg #[.int .i64 a, .int .i64 b, .slice A n c], .agg #[.int .i64 a', .int .i64 b', .slice A' n' c']] w fun e w' => e = .returned (.tuple #[.agg #[.int .i64 0, .int .i64 0], .int .i64 6]) ∧ Below w.heap.size w w' :=
  (offset_any ⟨a, b, bs⟩ ⟨a', b', bs'⟩ A A' n c n' c' w hr hr' hc hc').mono fun e w' k => by
    obtain ⟨r, hR, rfl, hb⟩ := k
    rw [offR_none (both2_ok hck hck') h hR]
    exact ⟨rfl, hb⟩
theorem chk_is {a b : Nat} {bs : List Bool} (ha1 : 1 ≤ a) (hb1 : 1 ≤ b) (ha : a ≤ 64) (hb : b ≤ 64) (hl : bs.length = b * a) : chkG ⟨a, b, bs⟩ = 0 := by
  unfold chkG
  exact chk_ok (by simp; omega) (by simp; omega) (by simp; omega) (by simp; omega) (by simp [hl, Int.mul_comm])
end Go.Proofs.YtkhochbkjhpfgaaDoor
