/- Parts of the proof, in their order. -/
import Derived.Test.YtliibficmdomjaaMg8z
import Derived.Test.YtliibficmdomjaaMg6z
import Derived.Outline
import Derived.BigQuiet
import Derived.BigRegion
import Derived.IntWalk
import Derived.Lib.Hide
import Derived.Test.YtliibficmdomjaaRepPz
import Derived.Test.YtliibficmdomjaaMg12z
import Derived.Deep.RegionHeld3
import Derived.Deep.DeepMust
/- raddleref06.Gcd. -/
namespace Go.Proofs.Ytliibficmdomjaa
open Go.RowKit

set_option maxHeartbeats 1000000 in
theorem gcd_any (a b : Nat) (w : World) (hb : b ≤ 1000000) :
    Calls Try.prog 53 #[.int .i64 a, .int .i64 b] w fun e w' => e = .returned (.int .i64 (Nat.gcd a b : Nat)) ∧ ∃ m, w' = w.drewN m := by
  obtain ⟨G, hG⟩ : ∃ G, G = Nat.gcd a b := ⟨_, rfl⟩
  rw [← hG]
  have HG := Lib.hid hG
  clear hG
  go_enter Try.func53, Try.ntmps53
  go_wp2_with fail
  go_loopw [0, 1] (fun u v wr => ∃ (x y m : Nat), u = .int .i64 x ∧ v = .int .i64 y ∧ y ≤ 1000000 ∧ G = Nat.gcd x y ∧ wr = w.drewN m) (fun _ v _ => (intOf v).toNat)
  case atStart => exact ⟨a, b, 0, rfl, rfl, hb, HG.out, rfl⟩
  case round =>
    obtain ⟨x, y, m, rfl, rfl, hy, hg, rfl⟩ := hrel
    have HX := Lib.hid hg
    clear hg
    by_cases h0 : 0 < y
    · have h1 : ¬ (y : Int) = 0 := by omega
      have h2 : ¬ y = 0 := by omega
      have ht : (x : Int).tmod (y : Int) = ((x % y : Nat) : Int) := by rw [Int.tmod_eq_emod_of_nonneg (by omega)]; exact (Int.natCast_emod x y).symm
      have hlt : x % y < y := Nat.mod_lt _ h0
      have HR : Hid (G = Nat.gcd y (x % y)) := Lib.hid (by rw [HX.out, Nat.gcd_comm x y, Nat.gcd_rec y x, Nat.gcd_comm])
      generalize x % y = z at *
      go_wp2_with fail
      go_region
      all_goals
        go_wp2_with fail
        go_roundw
        case rel => exact ⟨y, z, m + 1, rfl, rfl, by omega, HR.out, rfl⟩
        case measure => simp [intOf]; omega
    · obtain rfl : y = 0 := by omega
      have HZ : Hid (G = x) := Lib.hid (by rw [HX.out]; simp)
      go_wp2_with fail
      go_ret
      exact ⟨ret_i (by rw [HZ.out]), m, rfl⟩
end Go.Proofs.Ytliibficmdomjaa
/- raddleref01.Mod gives the remainder from 0 on (a divisor of at least 1). -/
namespace Go.Proofs.Ytliibficmdomjaa
open Go.RowKit

theorem mod_any (a n : Int) (w : World) (hn : 1 ≤ n) (hn2 : n ≤ 1000000) :
    Calls Try.prog 55 #[.int .i64 a, .int .i64 n] w fun e w' => e = .returned (.int .i64 (a % n)) ∧ w' = w := by
  have h1 := Int.tmod_lt_of_pos a (show 0 < n by omega)
  have h2 := Int.lt_tmod_of_pos a (show 0 < n by omega)
  have h3 := Pl.mod2 a n (by omega)
  have H3 := Lib.hid h3
  clear h3
  go_enter Try.func55, Try.ntmps55
  go_wp2
  go_ret
  exact ⟨ret_i (by have := H3.out; rw [Int.tmod_eq_emod_of_nonneg (by omega)] at this; exact this), rfl⟩

end Go.Proofs.Ytliibficmdomjaa
/- raddleref06.At: a cell of the plane. -/
namespace Go.Proofs.Ytliibficmdomjaa
open Go.RowKit


theorem ret_b2 {a b : Bool} (h : a = b) : Ending.returned (.bool a) = Ending.returned (.bool b) := by rw [h]
theorem ret_b' {R : Bool} {a b : Nat} {p q : Nat → Nat → Bool} (h : R = true ↔ ∀ x y : Nat, x < a → y < b → p x y = q x y) {x y : Nat} (hx : x < a) (hy : y < b) (hn : p x y ≠ q x y) : Ending.returned (.bool false) = Ending.returned (.bool R) := by
  rcases Bool.eq_false_or_eq_true R with e | e
  · exact absurd (h.1 e x y hx hy) hn
  · rw [e]
theorem mod_to {r : Int} (a n : Int) (w : World) (h : a % n = r) (hn : 1 ≤ n) (hn2 : n ≤ 1000000) :
    Calls Try.prog 55 #[.int .i64 a, .int .i64 n] w fun e w' => e = .returned (.int .i64 r) ∧ w' = w := h ▸ mod_any a n w hn hn2
theorem at_pl {a b u v : Nat} {x y : Int} {bs : List Bool} (h1 : x % (a : Int) = (u : Int)) (h2 : y % (b : Int) = (v : Int)) : bs.getD (v * a + u) false = pl a b bs x y := by
  unfold pl
  rw [h1, h2]
  simp

set_option maxHeartbeats 1000000 in
theorem plane_any (a b c : Nat) (A : Option Addr) (bs : List Bool) (x y : Int) (w : World) (ha1 : 1 ≤ a) (hb1 : 1 ≤ b) (ha : a ≤ 64) (hb : b ≤ 64) (hr : Rd w A (b * a) (bs.map Value.bool)) :
    Calls Try.prog 62 #[.agg #[.int .i64 a, .int .i64 b, .slice A (b * a) c], .int .i64 x, .int .i64 y] w fun e w' => e = .returned (.bool (pl a b bs x y)) ∧ Below w.heap.size w w' := by
  have u1 := Int.emod_nonneg x (show (a : Int) ≠ 0 by omega)
  have u2 := Int.emod_lt_of_pos x (show 0 < (a : Int) by omega)
  have v1 := Int.emod_nonneg y (show (b : Int) ≠ 0 by omega)
  have v2 := Int.emod_lt_of_pos y (show 0 < (b : Int) by omega)
  obtain ⟨u, hu⟩ : ∃ u : Nat, x % (a : Int) = (u : Int) := ⟨(x % (a : Int)).toNat, by omega⟩
  obtain ⟨v, hv⟩ : ∃ v : Nat, y % (b : Int) = (v : Int) := ⟨(y % (b : Int)).toNat, by omega⟩
  have hua : u < a := by omega
  have hvb : v < b := by omega
  have HP := Lib.hid (at_pl (bs := bs) hu hv)
  have HU := Lib.hid hu
  have HV := Lib.hid hv
  clear hu hv u1 u2 v1 v2
  generalize pl a b bs x y = R at *
  have S0 := ((St.start w).addRd hr).box #[.int .i64 a, .int .i64 b, .slice A (b * a) c] 24
  simp only [List.nil_append, List.cons_append] at S0
  obtain ⟨c0, c1, c2⟩ := (S0.blk 1 rfl).cell3
  have SD := S0.drew
  clear hr
  go_enter Try.func62, Try.ntmps62
  go_wp2_with fail
  go_region_held3 (fun w' => w'.cell? ⟨w.heap.size, 0, none⟩ = some (.int .i64 a) ∧ w'.cell? ⟨w.heap.size, 1, none⟩ = some (.int .i64 b) ∧ w'.cell? ⟨w.heap.size, 2, none⟩ = some (.slice A (b * a) c))
    (first | exact (SD.blk 1 rfl).cell3 | go_keep)
    (first
      | (go_at_call 55; first | ((with_reducible refine (mod_to x (a : Int) _ HU.out (by omega) (by omega)).mono ?_); rintro ez wz ⟨rfl, rfl⟩) | ((with_reducible refine (mod_to y (b : Int) _ HV.out (by omega) (by omega)).mono ?_); rintro ez wz ⟨rfl, rfl⟩))
      | (go_at_call 54; refine (at_to a b u v bs _ _ _ _ HP.out ha hb hua hvb (SD.rd 0 rfl)).mono ?_; rintro ez wz ⟨rfl, hbz⟩; replace SD := SD.keep hbz)
      | fail)
  all_goals
    go_wp2_with fail
    go_ret
    exact ⟨rfl, SD.below⟩
theorem plane_to {r : Bool} (a b c : Nat) (A : Option Addr) (bs : List Bool) (x y : Int) (w : World) (h : pl a b bs x y = r) (ha1 : 1 ≤ a) (hb1 : 1 ≤ b) (ha : a ≤ 64) (hb : b ≤ 64) (hr : Rd w A (b * a) (bs.map Value.bool)) :
    Calls Try.prog 62 #[.agg #[.int .i64 a, .int .i64 b, .slice A (b * a) c], .int .i64 x, .int .i64 y] w fun e w' => e = .returned (.bool r) ∧ Below w.heap.size w w' := h ▸ plane_any a b c A bs x y w ha1 hb1 ha hb hr
end Go.Proofs.Ytliibficmdomjaa
