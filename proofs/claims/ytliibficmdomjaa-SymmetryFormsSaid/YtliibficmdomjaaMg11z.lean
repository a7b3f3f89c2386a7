/- Parts of the proof, in their order. -/
import Derived.Test.YtliibficmdomjaaAppNoAz
import Derived.Test.YtliibficmdomjaaAppNoBz
import Derived.Test.YtliibficmdomjaaAppYesAz
import Derived.Test.YtliibficmdomjaaAppYesBz
import Derived.Test.YtliibficmdomjaaMg8z
import Derived.Lib.Hide
import Derived.Test.YtliibficmdomjaaLibz
import Derived.Test.YtliibficmdomjaaMg6z
/- symmetry.applied: a valid grid with an operation applied. -/
namespace Go.Proofs.Ytliibficmdomjaa
open Go.RowKit

theorem applied_any (a b op bl o c : Nat) (bs : List Bool) (w : World) (ha1 : 1 ≤ a) (hb1 : 1 ≤ b) (ha : a ≤ 64) (hb : b ≤ 64) (ho : op < 16) (hr : Rd w (some ⟨bl, o, none⟩) (b * a) (bs.map Value.bool)) :
    Calls Try.prog 27 #[.agg #[.int .i64 a, .int .i64 b, .slice (some ⟨bl, o, none⟩) (b * a) c], .int .i64 op] w (RetT (appG a b bs op) w) := by
  unfold appG appB
  rcases Bool.eq_false_or_eq_true (op.testBit 2) with h4 | h4 <;> rcases Bool.eq_false_or_eq_true (op.testBit 0) with h1 | h1 <;> rcases Bool.eq_false_or_eq_true (op.testBit 1) with h2 | h2 <;> rw [h4, h1, h2]
  · exact applied_ttt a b op bl o c bs w ha1 hb1 ha hb ho _ h1 h2 h4 rfl hr
  · exact applied_ttf a b op bl o c bs w ha1 hb1 ha hb ho _ h1 h2 h4 rfl hr
  · exact applied_tft a b op bl o c bs w ha1 hb1 ha hb ho _ h1 h2 h4 rfl hr
  · exact applied_tff a b op bl o c bs w ha1 hb1 ha hb ho _ h1 h2 h4 rfl hr
  · exact applied_ftt a b op bl o c bs w ha1 hb1 ha hb ho _ h1 h2 h4 rfl hr
  · exact applied_ftf a b op bl o c bs w ha1 hb1 ha hb ho _ h1 h2 h4 rfl hr
  · exact applied_fft a b op bl o c bs w ha1 hb1 ha hb ho _ h1 h2 h4 rfl hr
  · exact applied_fff a b op bl o c bs w ha1 hb1 ha hb ho _ h1 h2 h4 rfl hr
end Go.Proofs.Ytliibficmdomjaa
/- repeat.mod gives the remainder from 0 on (a divisor of at least 1). -/
namespace Go.Proofs.Ytliibficmdomjaa
open Go.RowKit

theorem rmod_any (a n : Int) (w : World) (hn : 1 ≤ n) (hn2 : n ≤ 1000000) :
    Calls Try.prog 57 #[.int .i64 a, .int .i64 n] w fun e w' => e = .returned (.int .i64 (a % n)) ∧ w' = w := by
  have h1 := Int.tmod_lt_of_pos a (show 0 < n by omega)
  have h2 := Int.lt_tmod_of_pos a (show 0 < n by omega)
  have h3 := Pl.tmod_pos a n (by omega)
  have H3 := Lib.hid h3
  clear h3
  by_cases ht : a.tmod n < 0
  all_goals
    go_enter Try.func57, Try.ntmps57
    go_wp2
    go_ret
    exact ⟨ret_i (by have := H3.out; first | (rw [if_pos ht] at this; exact this) | (rw [if_neg (by omega)] at this; exact this)), rfl⟩

end Go.Proofs.Ytliibficmdomjaa
/- The reference's Check of layer 1 gives the error 'chk', for any grid. -/
namespace Go.Proofs.Ytliibficmdomjaa
open Go.RowKit

theorem rcheck_any (W H : Int) (A : Option Addr) (n c : Nat) (w : World) :
    Calls Try.prog 44 #[.agg #[.int .i64 W, .int .i64 H, .slice A n c]] w fun e w' => e = .returned (.int .i64 (chk W H n)) ∧ Below w.heap.size w w' := by
  by_cases hb : 64 < W ∨ 64 < H
  · go_enter Try.func44, Try.ntmps44
    go_wp2
    all_goals (go_ret; exact ⟨ret_i (chk_big hb).symm, (Below.refl _ _).alloc (Nat.le_refl _) _⟩)
  by_cases hs : W < 1 ∨ H < 1
  · have hW : W ≤ 64 := by omega
    have hH : H ≤ 64 := by omega
    go_enter Try.func44, Try.ntmps44
    go_wp2
    all_goals (go_ret; exact ⟨ret_i (chk_bad hW hH (by omega)).symm, (Below.refl _ _).alloc (Nat.le_refl _) _⟩)
  have hW : W ≤ 64 := by omega
  have hH : H ≤ 64 := by omega
  have hW1 : 1 ≤ W := by omega
  have hH1 : 1 ≤ H := by omega
  have hm := mul_wrap hW hH hW1 hH1
  by_cases hl : (n : Int) = W * H
  · have hl' : ((n : Int) != wrap64 (W * H)) = false := by rw [hm, bne_eq_false_iff_eq]; exact hl
    have HL := Lib.hid hl; clear hl
    have HM := Lib.hid hm; clear hm
    go_enter Try.func44, Try.ntmps44
    go_wp2
    all_goals (go_ret; exact ⟨ret_i (chk_ok hW hH hW1 hH1 HL.out).symm, (Below.refl _ _).alloc (Nat.le_refl _) _⟩)
  · have hl' : ((n : Int) != wrap64 (W * H)) = true := by rw [hm, bne_iff_ne]; exact hl
    have HL := Lib.hid hl; clear hl
    have HM := Lib.hid hm; clear hm
    go_enter Try.func44, Try.ntmps44
    go_wp2
    all_goals (go_ret; exact ⟨ret_i (chk_bad hW hH (.inr (.inr HL.out))).symm, (Below.refl _ _).alloc (Nat.le_refl _) _⟩)
end Go.Proofs.Ytliibficmdomjaa
/- A list of numbers and an error, in new memory. -/
namespace Go.Proofs.Ytliibficmdomjaa
open Go.RowKit
theorem Try.infoI : (Try.prog.info? 3).map (fun i => (i.zero, i.size, i.bytes)) = some (some (.int .i64 0), 1, 8) := by kernel_rfl
theorem own_le {w : World} {base : Nat} {e : TypeId} {A : Option Addr} {n c : Nat} {xs : List Value} (h : w.ownsRow base e 1 (.slice A n c) n xs) : n ≤ c := by
  obtain ⟨A', c', hv, h1, _⟩ := own_shape h
  injection hv with _ _ h3
  omega
def RetL (r : List Int × Int) (w : World) (e : Ending) (w' : World) : Prop :=
  ∃ A n c, e = .returned (.tuple #[.slice A n c, .int .i64 r.2]) ∧ w'.ownsRow w.heap.size 3 1 (.slice A n c) n (r.1.map (Value.int .i64)) ∧ Below w.heap.size w w'
theorem retL_bad {t : Int} {w w' : World} (hb : Below w.heap.size w w') : RetL ([], t) w (.returned (.tuple #[.slice none 0 0, .int .i64 t])) w' := ⟨none, 0, 0, rfl, World.ownsRow_nil _ _ _ _, hb⟩
end Go.Proofs.Ytliibficmdomjaa
