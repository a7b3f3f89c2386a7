/- loomlog.Check and raddleref20.Check: the error of a log. -/
import Derived.Test.YtfjdlbilnoojkaaLogz
import Derived.Test.YtfjdlbilnoojkaaStz
import Derived.Test.YtfjdlbilnoojkaaMg2z
import Derived.Test.YtfjdlbilnoojkaaProg
import Derived.KernelRfl
import Derived.Handy
import Derived.Outline
namespace Go.Proofs.Ytfjdlbilnoojkaa
open Go.RowKit

set_option maxHeartbeats 2600000 in
theorem echk_any (N : Int) (l : List Ev) (A : Option Addr) (n c : Nat) (w : World) (hr : LogR w A n l) :
    Calls Try.prog 19 #[.int .i64 N, .slice A n c] w fun e w' => e = .returned (.int .i64 (chkE N l)) ∧ Below w.heap.size w w' := by
  have HL := Lib.hid hr.len
  by_cases hN : N < 1 ∨ 40 < N
  · have hC := Lib.hid (chkE_arg (l := l) hN)
    generalize chkE N l = K at *
    obtain rfl : K = 2 := hC.out
    clear hC
    by_cases hN1 : N < 1
    · have hd : decide (N < 1) = true := decide_eq_true hN1
      clear hN
      go_enter Try.func19, Try.ntmps19
      go_wp2_with fail
      go_ret
      exact ⟨rfl, Below.refl _ _⟩
    · have hd : decide (N < 1) = false := decide_eq_false hN1
      have hd2 : decide (40 < N) = true := decide_eq_true (by omega)
      clear hN
      go_enter Try.func19, Try.ntmps19
      go_wp2_with fail
      go_ret
      exact ⟨rfl, Below.refl _ _⟩
  have hd : decide (N < 1) = false := decide_eq_false (by omega)
  have hd2 : decide (40 < N) = false := decide_eq_false (by omega)
  have HN := Lib.hid hN
  clear hN
  by_cases h4 : 400 < n
  · have hd3 : decide (400 < (n : Int)) = true := decide_eq_true (by omega)
    have hC := Lib.hid (chkE_many (l := l) HN.out (by rw [HL.out]; exact h4))
    generalize chkE N l = K at *
    obtain rfl : K = 4 := hC.out
    clear hC
    go_enter Try.func19, Try.ntmps19
    go_wp2_with fail
    go_ret
    exact ⟨rfl, Below.refl _ _⟩
  have hd3 : decide (400 < (n : Int)) = false := decide_eq_false (by omega)
  have H4 : Hid (¬ 400 < l.length) := by have := HL.out; exact fun h => h4 (by omega)
  go_enter Try.func19, Try.ntmps19
  go_wp2_with fail
  go_loopw [20] (fun i wr => ∃ k : Nat, k ≤ n ∧ i = .int .i64 k ∧ okTo N l k ∧ Below w.heap.size w wr) (fun i _ => n - (intOf i).toNat)
  case atStart => exact ⟨0, Nat.zero_le _, rfl, okTo_zero _ _, Below.refl _ _⟩
  case round =>
    obtain ⟨k, hk, rfl, heq, hbl⟩ := hrel
    have HE := Lib.hid heq
    clear heq
    by_cases hlt : k < n
    · obtain ⟨b, o, q, r, A', c', hA, hb, hi, c1, c2, hrr⟩ := (hr.below hbl).at_ hlt
      subst hA
      have HI := Lib.hid hi
      clear hi
      by_cases q1 : q = 1
      · subst q1
        by_cases hln : (r.length : Int) = N
        · have hd4 : ((r.length : Int) == N) = true := by simpa using hln
          have HO := Lib.hid (show evOk N ((1 : Int), r) from .inl ⟨rfl, hln⟩)
          clear hln
          go_wp2_with fail
          go_roundw
          case rel => exact ⟨k + 1, by omega, by go_num, okTo_succ HE.out HI.out HO.out, hbl.alloc hbl.size _⟩
          case measure => simp [intOf]; omega
        · have hd4 : ((r.length : Int) == N) = false := by simpa using hln
          have HO := Lib.hid (show ¬ evOk N ((1 : Int), r) from by rintro (⟨_, h⟩ | ⟨h | h, _⟩) <;> simp_all)
          clear hln
          have hC := Lib.hid (chkE_bad HN.out H4.out HI.out HO.out)
          go_wp2_with fail
          go_ret
          exact ⟨ret_i hC.out.symm, hbl.alloc hbl.size _⟩
      · have hd5 : (q == 1) = false := by simpa using q1
        by_cases q2 : q = 2
        · subst q2
          by_cases hln : r.length = 0
          · have hd4 : ((r.length : Int) == 0) = true := by simp [hln]
            have HO := Lib.hid (show evOk N ((2 : Int), r) from .inr ⟨.inl rfl, hln⟩)
            clear hln
            go_wp2_with fail
            go_roundw
            case rel => exact ⟨k + 1, by omega, by go_num, okTo_succ HE.out HI.out HO.out, hbl.alloc hbl.size _⟩
            case measure => simp [intOf]; omega
          · have hd4 : ((r.length : Int) == 0) = false := by simp; intro h; simp [h] at hln
            have HO := Lib.hid (show ¬ evOk N ((2 : Int), r) from by rintro (⟨h, _⟩ | ⟨_, h⟩) <;> simp_all)
            clear hln
            have hC := Lib.hid (chkE_bad HN.out H4.out HI.out HO.out)
            go_wp2_with fail
            go_ret
            exact ⟨ret_i hC.out.symm, hbl.alloc hbl.size _⟩
        · have hd6 : (q == 2) = false := by simpa using q2
          by_cases q3 : q = 3
          · subst q3
            by_cases hln : r.length = 0
            · have hd4 : ((r.length : Int) == 0) = true := by simp [hln]
              have HO := Lib.hid (show evOk N ((3 : Int), r) from .inr ⟨.inr rfl, hln⟩)
              clear hln
              go_wp2_with fail
              go_roundw
              case rel => exact ⟨k + 1, by omega, by go_num, okTo_succ HE.out HI.out HO.out, hbl.alloc hbl.size _⟩
              case measure => simp [intOf]; omega
            · have hd4 : ((r.length : Int) == 0) = false := by simp; intro h; simp [h] at hln
              have HO := Lib.hid (show ¬ evOk N ((3 : Int), r) from by rintro (⟨h, _⟩ | ⟨_, h⟩) <;> simp_all)
              clear hln
              have hC := Lib.hid (chkE_bad HN.out H4.out HI.out HO.out)
              go_wp2_with fail
              go_ret
              exact ⟨ret_i hC.out.symm, hbl.alloc hbl.size _⟩
          · have hd7 : (q == 3) = false := by simpa using q3
            have HO := Lib.hid (show ¬ evOk N (q, r) from by rintro (⟨h, _⟩ | ⟨h | h, _⟩) <;> simp_all)
            have hC := Lib.hid (chkE_bad HN.out H4.out HI.out HO.out)
            go_wp2_with fail
            go_ret
            exact ⟨ret_i hC.out.symm, hbl.alloc hbl.size _⟩
    · have hkk : k = n := by omega
      subst hkk
      have hC := Lib.hid (chkE_ok HN.out H4.out (okTo_all HL.out HE.out))
      go_wp2_with fail
      go_ret
      exact ⟨ret_i hC.out.symm, hbl⟩
set_option maxHeartbeats 2600000 in
theorem rechk_any (N : Int) (l : List Ev) (A : Option Addr) (n c : Nat) (w : World) (hr : LogR w A n l) :
    Calls Try.prog 20 #[.int .i64 N, .slice A n c] w fun e w' => e = .returned (.int .i64 (chkE N l)) ∧ w' = w := by
  have HL := Lib.hid hr.len
  by_cases hN : N < 1 ∨ 40 < N
  · have hC := Lib.hid (chkE_arg (l := l) hN)
    generalize chkE N l = K at *
    obtain rfl : K = 2 := hC.out
    clear hC
    by_cases hN1 : N < 1
    · have hd : decide (N < 1) = true := decide_eq_true hN1
      clear hN
      go_enter Try.func20, Try.ntmps20
      go_wp2_with fail
      go_ret
      exact ⟨rfl, rfl⟩
    · have hd : decide (N < 1) = false := decide_eq_false hN1
      have hd2 : decide (40 < N) = true := decide_eq_true (by omega)
      clear hN
      go_enter Try.func20, Try.ntmps20
      go_wp2_with fail
      go_ret
      exact ⟨rfl, rfl⟩
  have hd : decide (N < 1) = false := decide_eq_false (by omega)
  have hd2 : decide (40 < N) = false := decide_eq_false (by omega)
  have HN := Lib.hid hN
  clear hN
  by_cases h4 : 400 < n
  · have hd3 : decide (400 < (n : Int)) = true := decide_eq_true (by omega)
    have hC := Lib.hid (chkE_many (l := l) HN.out (by rw [HL.out]; exact h4))
    generalize chkE N l = K at *
    obtain rfl : K = 4 := hC.out
    clear hC
    go_enter Try.func20, Try.ntmps20
    go_wp2_with fail
    go_ret
    exact ⟨rfl, rfl⟩
  have hd3 : decide (400 < (n : Int)) = false := decide_eq_false (by omega)
  have H4 : Hid (¬ 400 < l.length) := by have := HL.out; exact fun h => h4 (by omega)
  go_enter Try.func20, Try.ntmps20
  go_wp2_with fail
  go_loopw [5, 6] (fun i u wr => ∃ k : Nat, k ≤ n ∧ i = .int .i64 k ∧ okTo N l k ∧ wr = w) (fun i _ _ => n - (intOf i).toNat)
  case atStart => exact ⟨0, Nat.zero_le _, rfl, okTo_zero _ _, rfl⟩
  case round =>
    obtain ⟨k, hk, rfl, heq, rfl⟩ := hrel
    have HE := Lib.hid heq
    clear heq
    by_cases hlt : k < n
    · obtain ⟨b, o, q, r, A', c', hA, hb, hi, c1, c2, hrr⟩ := hr.at_ hlt
      subst hA
      have HI := Lib.hid hi
      clear hi
      by_cases q1 : q = 1
      · subst q1
        by_cases hln : (r.length : Int) = N
        · have hd4 : ((r.length : Int) != N) = false := by simpa using hln
          have HO := Lib.hid (show evOk N ((1 : Int), r) from .inl ⟨rfl, hln⟩)
          clear hln
          go_wp2_with fail
          go_roundw
          case rel => exact ⟨k + 1, by omega, by go_num, okTo_succ HE.out HI.out HO.out, by trivial⟩
          case measure => simp [intOf]; omega
        · have hd4 : ((r.length : Int) != N) = true := by simpa using hln
          have HO := Lib.hid (show ¬ evOk N ((1 : Int), r) from by rintro (⟨_, h⟩ | ⟨h | h, _⟩) <;> simp_all)
          clear hln
          have hC := Lib.hid (chkE_bad HN.out H4.out HI.out HO.out)
          go_wp2_with fail
          go_ret
          exact ⟨ret_i hC.out.symm, rfl⟩
      · have hd5 : (q == 1) = false := by simpa using q1
        by_cases q2 : q = 2
        · subst q2
          by_cases hln : r.length = 0
          · have hd4 : ((r.length : Int) != 0) = false := by simp [hln]
            have HO := Lib.hid (show evOk N ((2 : Int), r) from .inr ⟨.inl rfl, hln⟩)
            clear hln
            go_wp2_with fail
            go_roundw
            case rel => exact ⟨k + 1, by omega, by go_num, okTo_succ HE.out HI.out HO.out, by trivial⟩
            case measure => simp [intOf]; omega
          · have hd4 : ((r.length : Int) != 0) = true := by simp; intro h; simp [h] at hln
            have HO := Lib.hid (show ¬ evOk N ((2 : Int), r) from by rintro (⟨h, _⟩ | ⟨_, h⟩) <;> simp_all)
            clear hln
            have hC := Lib.hid (chkE_bad HN.out H4.out HI.out HO.out)
            go_wp2_with fail
            go_ret
            exact ⟨ret_i hC.out.symm, rfl⟩
        · by_cases q3 : q = 3
          · subst q3
            by_cases hln : r.length = 0
            · have hd4 : ((r.length : Int) != 0) = false := by simp [hln]
              have HO := Lib.hid (show evOk N ((3 : Int), r) from .inr ⟨.inr rfl, hln⟩)
              clear hln
              go_wp2_with fail
              go_roundw
              case rel => exact ⟨k + 1, by omega, by go_num, okTo_succ HE.out HI.out HO.out, by trivial⟩
              case measure => simp [intOf]; omega
            · have hd4 : ((r.length : Int) != 0) = true := by simp; intro h; simp [h] at hln
              have HO := Lib.hid (show ¬ evOk N ((3 : Int), r) from by rintro (⟨h, _⟩ | ⟨_, h⟩) <;> simp_all)
              clear hln
              have hC := Lib.hid (chkE_bad HN.out H4.out HI.out HO.out)
              go_wp2_with fail
              go_ret
              exact ⟨ret_i hC.out.symm, rfl⟩
          · have HO := Lib.hid (show ¬ evOk N (q, r) from by rintro (⟨h, _⟩ | ⟨h | h, _⟩) <;> simp_all)
            by_cases q4 : q < 1
            · have hd7 : decide (q < 1) = true := decide_eq_true q4
              have hC := Lib.hid (chkE_bad HN.out H4.out HI.out HO.out)
              go_wp2_with fail
              go_ret
              exact ⟨ret_i hC.out.symm, rfl⟩
            · have hd7 : decide (q < 1) = false := decide_eq_false q4
              have hd8 : decide (3 < q) = true := decide_eq_true (by omega)
              have hC := Lib.hid (chkE_bad HN.out H4.out HI.out HO.out)
              go_wp2_with fail
              go_ret
              exact ⟨ret_i hC.out.symm, rfl⟩
    · have hkk : k = n := by omega
      subst hkk
      have hC := Lib.hid (chkE_ok HN.out H4.out (okTo_all HL.out HE.out))
      go_wp2_with fail
      go_ret
      exact ⟨ret_i hC.out.symm, rfl⟩
end Go.Proofs.Ytfjdlbilnoojkaa
