/- repeat.row, turned and repeats: whether a step is a repeat of a valid grid. -/
import Derived.Test.YtliibficmdomjaaDoorMg9z
import Derived.Test.YtliibficmdomjaaDoorRepPz
import Derived.Test.YtliibficmdomjaaDoorMg8z
import Derived.Test.YtliibficmdomjaaDoorMg6z
import Derived.Deep.RegionHeld3
import Derived.Deep.DeepMust
import Derived.Deep.QuietTactic
import Derived.BigQuiet
namespace Go.Proofs.YtliibficmdomjaaDoor
open Go.RowKit

/-- A part of what is read. -/
theorem Rd.sub {w : World} {bl o n k m : Nat} {xs : List Value} (h : Rd w (some ⟨bl, o, none⟩) n xs) (hk : k + m ≤ n) : Rd w (some ⟨bl, o + k, none⟩) m ((xs.drop k).take m) := by
  refine ⟨by rw [List.length_take, List.length_drop, h.1]; omega, fun hm => ⟨bl, o + k, rfl, fun j u hu => ?_⟩⟩
  rw [List.getElem?_take] at hu
  split at hu
  · rw [List.getElem?_drop] at hu
    have := h.lit (k + j) u hu
    rw [Nat.add_assoc]
    exact this
  · cases hu
theorem rowL_drop {a b : Nat} {bs : List Bool} {Y : Int} (hl : bs.length = b * a) (hb : 1 ≤ b) : ((bs.drop ((Y % (b : Int)).toNat * a)).take a) = rowL a b bs Y := by
  have h1 := Int.emod_nonneg Y (show (b : Int) ≠ 0 by omega)
  have h2 := Int.emod_lt_of_pos Y (show 0 < (b : Int) by omega)
  have hlt : (Y % (b : Int)).toNat < b := by omega
  apply List.ext_getElem?
  intro i
  rw [List.getElem?_take]
  by_cases hi : i < a
  · rw [if_pos hi, List.getElem?_drop, rowL_get hi]
    have hc := Pl.cell_lt (w := a) (h := b) hi hlt
    rw [List.getElem?_eq_getElem (by rw [hl]; exact hc)]
    unfold pl
    rw [Int.emod_eq_of_lt (a := (i : Int)) (by omega) (by omega)]
    simp [List.getD, show (Y % (b : Int)).toNat * a + i < bs.length by rw [hl]; exact hc]
  · rw [if_neg hi, List.getElem?_eq_none (by rw [rowL_len]; omega)]
theorem rd_row {w : World} {bl o a b : Nat} {bs : List Bool} (Y : Int) (h : Rd w (some ⟨bl, o, none⟩) (b * a) (bs.map Value.bool)) (hb : 1 ≤ b) :
    Rd w (some ⟨bl, o + (Y % (b : Int)).toNat * a, none⟩) a ((rowL a b bs Y).map Value.bool) := by
  have hl : bs.length = b * a := by simpa using h.len
  have h1 := Int.emod_nonneg Y (show (b : Int) ≠ 0 by omega)
  have h2 := Int.emod_lt_of_pos Y (show 0 < (b : Int) by omega)
  have hlt : (Y % (b : Int)).toNat < b := by omega
  have hc : ((Y % (b : Int)).toNat + 1) * a ≤ b * a := Nat.mul_le_mul_right a hlt
  rw [Nat.succ_mul] at hc
  have := h.sub (k := (Y % (b : Int)).toNat * a) (m := a) hc
  rw [← List.map_drop, ← List.map_take, rowL_drop hl hb] at this
  exact this

theorem ret_sl {A : Option Addr} {n n' c c' : Nat} (h1 : n = n') (h2 : c = c') : Ending.returned (.slice A n c) = Ending.returned (.slice A n' c') := by rw [h1, h2]

set_option maxHeartbeats 1000000 in
theorem row_any (a b bl o c : Nat) (Y : Int) (w : World) (ha1 : 1 ≤ a) (hb1 : 1 ≤ b) (ha : a ≤ 64) (hb : b ≤ 64) (hc : b * a ≤ c) :
    Calls Tryd.prog 38 #[.agg #[.int .i64 a, .int .i64 b, .slice (some ⟨bl, o, none⟩) (b * a) c], .int .i64 Y] w fun e w' => e = .returned (.slice (some ⟨bl, o + (Y % (b : Int)).toNat * a, none⟩) a a) ∧ Below w.heap.size w w' := by
  have h1 := Int.emod_nonneg Y (show (b : Int) ≠ 0 by omega)
  have h2 := Int.emod_lt_of_pos Y (show 0 < (b : Int) by omega)
  have HR := Lib.hid (rmod_any Y (b : Int) (w.alloc (.cells #[.int .i64 a, .int .i64 b, .slice (some ⟨bl, o, none⟩) (b * a) c] 24)) (by omega) (by omega))
  have S0 := (St.start w).box #[.int .i64 a, .int .i64 b, .slice (some ⟨bl, o, none⟩) (b * a) c] 24
  simp only [List.nil_append] at S0
  obtain ⟨r, hr⟩ : ∃ r : Nat, Y % (b : Int) = (r : Int) := ⟨(Y % (b : Int)).toNat, by omega⟩
  rw [hr] at HR h2 ⊢
  simp only [Int.toNat_natCast]
  have hrb : r < b := by omega
  have hlt : (r + 1) * a ≤ b * a := Nat.mul_le_mul_right a hrb
  rw [Nat.succ_mul] at hlt
  have hba : b * a ≤ 64 * 64 := Nat.mul_le_mul hb ha
  have e1 : (r : Int) * (a : Int) = ((r * a : Nat) : Int) := (Int.natCast_mul r a).symm
  have e2 : ((r : Int) + 1) * (a : Int) = ((r * a + a : Nat) : Int) := by rw [Int.add_mul, e1]; omega
  obtain ⟨c0, c1, c2⟩ := (S0.blk 0 rfl).cell3
  clear hr h1
  generalize r * a = q at *
  generalize b * a = n at *
  go_enter Tryd.func38, Tryd.ntmps38
  go_wp2_with fail
  refine HR.out.mono ?_
  rintro e w1 ⟨rfl, rfl⟩
  go_wp2_with fail
  go_ret
  exact ⟨ret_sl (by omega) (by omega), S0.below⟩

theorem eqs_to {r : Bool} (l l2 : List Bool) (A A2 : Option Addr) (n c n2 c2 : Nat) (w : World) (h : decide (l = l2) = r) (hr : Rd w A n (l.map Value.bool)) (hr2 : Rd w A2 n2 (l2.map Value.bool)) (hn : n ≤ 1048576) :
    Calls Tryd.prog 65 #[.slice A n c, .slice A2 n2 c2] w fun e w' => e = .returned (.bool r) ∧ ∃ m, w' = w.drewN m := h ▸ eqs_any l l2 A A2 n c n2 c2 w hr hr2 hn
theorem rd_zero {w : World} {A : Option Addr} {n : Nat} (h : n = 0) : Rd w A n (([] : List Bool).map Value.bool) := by subst h; exact ⟨rfl, fun h => absurd h (by omega)⟩
theorem Rd.tail {w : World} {bl o n k m : Nat} {l : List Bool} (h : Rd w (some ⟨bl, o, none⟩) n (l.map Value.bool)) (hk : k + m = n) : Rd w (some ⟨bl, o + k, none⟩) m ((l.drop k).map Value.bool) := by
  have hl : l.length = n := by simpa using h.len
  have := h.sub (k := k) (m := m) (by omega)
  rw [← List.map_drop, List.take_of_length_le (by simp; omega)] at this
  exact this
theorem Rd.front {w : World} {bl o n k : Nat} {l : List Bool} (h : Rd w (some ⟨bl, o, none⟩) n (l.map Value.bool)) (hk : k ≤ n) : Rd w (some ⟨bl, o, none⟩) k ((l.take k).map Value.bool) := by
  have := h.sub (k := 0) (m := k) (by omega)
  rw [List.drop_zero, ← List.map_take] at this
  exact this

set_option maxHeartbeats 1000000 in
theorem rowturned_any (a d bl o1 o2 : Nat) (p q : List Bool) (w : World) (ha : a ≤ 64) (hd : d < a) (hp : Rd w (some ⟨bl, o1, none⟩) a (p.map Value.bool)) (hq : Rd w (some ⟨bl, o2, none⟩) a (q.map Value.bool)) :
    Calls Tryd.prog 54 #[.slice (some ⟨bl, o1, none⟩) a a, .slice (some ⟨bl, o2, none⟩) a a, .int .i64 d] w fun e w' => e = .returned (.bool (turnedB p q d)) ∧ Below w.heap.size w w' := by
  have lq : q.length = a := by simpa using hq.len
  obtain ⟨e, he⟩ : ∃ e, a = d + e := ⟨a - d, by omega⟩
  have hsub : IntKind.i64.wrap ((a : Int) - (d : Int)) = (e : Int) := by rw [IntWalk.i64_in _ (by omega)]; omega
  have hsub2 : (a : Int) - (d : Int) = (e : Int) := by omega
  have hsub3 : IntKind.i64.wrap (e : Int) = (e : Int) := IntWalk.i64_in _ (by omega)
  have hT : turnedB p q d = (decide (p.drop d = q.take e) && decide (p.take d = q.drop e)) := by
    unfold turnedB
    rw [lq, show a - d = e by omega]
  have R1 := Lib.hid (hp.tail (k := d) (m := e) (by omega))
  have R2 := Lib.hid (hq.front (k := e) (by omega))
  have R3 := Lib.hid (hp.front (k := d) (by omega))
  have R4 := Lib.hid (hq.tail (k := e) (m := d) (by omega))
  have HT := Lib.hid hT
  have b1 : d ≤ a := by omega
  have b2 : e ≤ a := by omega
  have b3 : (e : Int) ≤ (a : Int) := by omega
  have b4 : a - d = e := by omega
  have b5 : a - e = d := by omega
  have b6 : ¬ e = 0 := by omega
  have b10 : ¬ a = d := by omega
  have b7 : (0 : Int) ≤ (d : Int) := by omega
  have b8 : (d : Int) ≤ (a : Int) := by omega
  have b9 : (0 : Int) ≤ (e : Int) := by omega
  clear hT lq hp hq he
  rcases Bool.eq_false_or_eq_true (decide (p.drop d = q.take e)) with h1 | h1
  · have H1 := Lib.hid h1
    rw [h1, Bool.true_and] at HT
    clear h1
    by_cases hd0 : d = 0
    · have hae : a = e := by omega
      subst hd0
      subst hae
      have hR1 := R1.out
      simp only [Nat.add_zero, List.drop_zero] at hR1 H1
      have R1' := Lib.hid hR1
      clear hR1
      have HZ : Hid (decide (([] : List Bool) = []) = turnedB p q 0) := Lib.hid (by rw [HT.out]; simp; have := R4.out.len; simp at this; omega)
      go_enter Tryd.func54, Tryd.ntmps54
      go_wp2_with fail
      go_quiet ((go_at_call 65; first | (with_reducible exact Calls.quiet_of (eqs_to _ _ _ _ _ _ _ _ _ H1.out (R1'.out.drewN _) (R2.out.drewN _) (by omega))) | (exact Calls.quiet_of (eqs_to [] [] _ _ _ _ _ _ _ HZ.out (rd_zero rfl) (rd_zero rfl) (Nat.zero_le _)))))
      go_wp2_with fail
      go_ret
      exact ⟨rfl, below_drewN (Below.refl _ _) _⟩
    · have b11 : ¬ a = e := by omega
      have HZ : Hid (decide (p.take d = q.drop e) = turnedB p q d) := Lib.hid HT.out.symm
      go_enter Tryd.func54, Tryd.ntmps54
      go_wp2_with fail
      go_quiet ((go_at_call 65; first | (with_reducible exact Calls.quiet_of (eqs_to _ _ _ _ _ _ _ _ _ H1.out (R1.out.drewN _) (R2.out.drewN _) (by omega))) | (with_reducible exact Calls.quiet_of (eqs_to _ _ _ _ _ _ _ _ _ HZ.out (R3.out.drewN _) (R4.out.drewN _) (by omega)))))
      go_wp2_with fail
      go_ret
      exact ⟨rfl, below_drewN (Below.refl _ _) _⟩
  · have H1 := Lib.hid h1
    rw [h1, Bool.false_and] at HT
    clear h1
    go_enter Tryd.func54, Tryd.ntmps54
    go_wp2_with fail
    go_quiet ((go_at_call 65; exact Calls.quiet_of (eqs_to _ _ _ _ _ _ _ _ _ H1.out (R1.out.drewN _) (R2.out.drewN _) (by omega))))
    go_wp2_with fail
    go_ret
    exact ⟨ret_e HT.out.symm, below_drewN (Below.refl _ _) _⟩
end Go.Proofs.YtliibficmdomjaaDoor
