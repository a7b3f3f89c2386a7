/- raddleref06.At and is: a cell of the plane; whether a step is a repeat. -/
import Derived.Test.YtbgekiifffnalaaRepP
import Derived.Test.YtbgekiifffnalaaMod
import Derived.Test.YtbgekiifffnalaaRCell
import Derived.Test.YtbgekiifffnalaaSt
import Derived.Deep.RegionHeld3
import Derived.Deep.DeepMust
import Derived.Outline
namespace Go.Proofs.Ytbgekiifffnalaa
open Go.RowKit

theorem ret_b2 {a b : Bool} (h : a = b) : Ending.returned (.bool a) = Ending.returned (.bool b) := by rw [h]
theorem ret_b' {R : Bool} {a b : Nat} {p q : Nat → Nat → Bool} (h : R = true ↔ ∀ x y : Nat, x < a → y < b → p x y = q x y) {x y : Nat} (hx : x < a) (hy : y < b) (hn : p x y ≠ q x y) : Ending.returned (.bool false) = Ending.returned (.bool R) := by
  rcases Bool.eq_false_or_eq_true R with e | e
  · exact absurd (h.1 e x y hx hy) hn
  · rw [e]
theorem mod_to {r : Int} (a n : Int) (w : World) (h : a % n = r) (hn : 1 ≤ n) (hn2 : n ≤ 1000000) :
    Calls Try.prog 31 #[.int .i64 a, .int .i64 n] w fun e w' => e = .returned (.int .i64 r) ∧ w' = w := h ▸ mod_any a n w hn hn2
theorem at_pl {a b u v : Nat} {x y : Int} {bs : List Bool} (h1 : x % (a : Int) = (u : Int)) (h2 : y % (b : Int) = (v : Int)) : bs.getD (v * a + u) false = pl a b bs x y := by
  unfold pl
  rw [h1, h2]
  simp

set_option maxHeartbeats 1000000 in
theorem plane_any (a b c : Nat) (A : Option Addr) (bs : List Bool) (x y : Int) (w : World) (ha1 : 1 ≤ a) (hb1 : 1 ≤ b) (ha : a ≤ 64) (hb : b ≤ 64) (hr : Rd w A (b * a) (bs.map Value.bool)) :
    Calls Try.prog 32 #[.agg #[.int .i64 a, .int .i64 b, .slice A (b * a) c], .int .i64 x, .int .i64 y] w fun e w' => e = .returned (.bool (pl a b bs x y)) ∧ Below w.heap.size w w' := by
  have u1 := Int.emod_nonneg x (show (a : Int) ≠ 0 by omega)
  have u2 := Int.emod_lt_of_pos x (show 0 < (a : Int) by omega)
  have v1 := Int.emod_nonneg y (show (b : Int) ≠ 0 by omega)
  have v2 := Int.emod_lt_of_pos y (show 0 < (b : Int) by omega)
  obtain ⟨u, hu⟩ : ∃ u : Nat, x % (a : Int) = (u : Int) := ⟨(x % (a : Int)).toNat, by omega⟩
  obtain ⟨v, hv⟩ : ∃ v : Nat, y % (b : Int) = (v : Int) := ⟨(y % (b : Int)).toNat, by omega⟩
  have hua : u < a := by omega
  have hvb : v < b := by omega
  have HP := Lib.hid (at_pl (bs := bs) hu hv)
  have HU := Lib.hid hu
  have HV := Lib.hid hv
  clear hu hv u1 u2 v1 v2
  generalize pl a b bs x y = R at *
  have S0 := ((St.start w).addRd hr).box #[.int .i64 a, .int .i64 b, .slice A (b * a) c] 24
  simp only [List.nil_append, List.cons_append] at S0
  obtain ⟨c0, c1, c2⟩ := (S0.blk 1 rfl).cell3
  have SD := S0.drew
  clear hr
  go_enter Try.func32, Try.ntmps32
  go_wp2_with fail
  go_region_held3 (fun w' => w'.cell? ⟨w.heap.size, 0, none⟩ = some (.int .i64 a) ∧ w'.cell? ⟨w.heap.size, 1, none⟩ = some (.int .i64 b) ∧ w'.cell? ⟨w.heap.size, 2, none⟩ = some (.slice A (b * a) c))
    (first | exact (SD.blk 1 rfl).cell3 | go_keep)
    (first
      | (go_at_call 31; first | ((with_reducible refine (mod_to x (a : Int) _ HU.out (by omega) (by omega)).mono ?_); rintro ez wz ⟨rfl, rfl⟩) | ((with_reducible refine (mod_to y (b : Int) _ HV.out (by omega) (by omega)).mono ?_); rintro ez wz ⟨rfl, rfl⟩))
      | (go_at_call 44; refine (at_to a b u v bs _ _ _ _ HP.out ha hb hua hvb (SD.rd 0 rfl)).mono ?_; rintro ez wz ⟨rfl, hbz⟩; replace SD := SD.keep hbz)
      | fail)
  all_goals
    go_wp2_with fail
    go_ret
    exact ⟨rfl, SD.below⟩
theorem plane_to {r : Bool} (a b c : Nat) (A : Option Addr) (bs : List Bool) (x y : Int) (w : World) (h : pl a b bs x y = r) (ha1 : 1 ≤ a) (hb1 : 1 ≤ b) (ha : a ≤ 64) (hb : b ≤ 64) (hr : Rd w A (b * a) (bs.map Value.bool)) :
    Calls Try.prog 32 #[.agg #[.int .i64 a, .int .i64 b, .slice A (b * a) c], .int .i64 x, .int .i64 y] w fun e w' => e = .returned (.bool r) ∧ Below w.heap.size w w' := h ▸ plane_any a b c A bs x y w ha1 hb1 ha hb hr
theorem repB_cells {a b d e : Nat} {bs : List Bool} {dx dy : Int} (h1 : dx % (a : Int) = (d : Int)) (h2 : dy % (b : Int) = (e : Int)) :
    repB a b bs dx dy = true ↔ ∀ x y : Nat, x < a → y < b → pl a b bs ((x : Int) + (d : Int)) ((y : Int) + (e : Int)) = pl a b bs (x : Int) (y : Int) := by
  rw [← repB_mod, h1, h2, repB_iff]

set_option maxHeartbeats 2000000 in
theorem ris_any (a b c : Nat) (A : Option Addr) (bs : List Bool) (dx dy : Int) (w : World) (ha1 : 1 ≤ a) (hb1 : 1 ≤ b) (ha : a ≤ 64) (hb : b ≤ 64) (hr : Rd w A (b * a) (bs.map Value.bool)) :
    Calls Try.prog 68 #[.agg #[.int .i64 a, .int .i64 b, .slice A (b * a) c], .int .i64 dx, .int .i64 dy] w fun e w' => e = .returned (.bool (repB a b bs dx dy)) ∧ Below w.heap.size w w' := by
  have u1 := Int.emod_nonneg dx (show (a : Int) ≠ 0 by omega)
  have u2 := Int.emod_lt_of_pos dx (show 0 < (a : Int) by omega)
  have v1 := Int.emod_nonneg dy (show (b : Int) ≠ 0 by omega)
  have v2 := Int.emod_lt_of_pos dy (show 0 < (b : Int) by omega)
  obtain ⟨d, hd⟩ : ∃ d : Nat, dx % (a : Int) = (d : Int) := ⟨(dx % (a : Int)).toNat, by omega⟩
  obtain ⟨e, he⟩ : ∃ e : Nat, dy % (b : Int) = (e : Int) := ⟨(dy % (b : Int)).toNat, by omega⟩
  have hda : d < a := by omega
  have heb : e < b := by omega
  have HI := Lib.hid (repB_cells (bs := bs) hd he)
  have HD := Lib.hid hd
  have HE := Lib.hid he
  clear hd he u1 u2 v1 v2
  generalize repB a b bs dx dy = R at *
  have S0 := ((St.start w).addRd hr).box #[.int .i64 a, .int .i64 b, .slice A (b * a) c] 24
  simp only [List.nil_append, List.cons_append] at S0
  obtain ⟨c0, c1, c2⟩ := (S0.blk 1 rfl).cell3
  clear hr
  go_enter Try.func68, Try.ntmps68
  go_wp2_with fail
  go_region_held3 (fun w' => w'.cell? ⟨w.heap.size, 0, none⟩ = some (.int .i64 a) ∧ w'.cell? ⟨w.heap.size, 1, none⟩ = some (.int .i64 b) ∧ w'.cell? ⟨w.heap.size, 2, none⟩ = some (.slice A (b * a) c))
    (first | exact (S0.drew.blk 1 rfl).cell3 | go_keep)
    (first
      | (go_at_call 31; first | ((with_reducible refine (mod_to dx (a : Int) _ HD.out (by omega) (by omega)).mono ?_); rintro ez wz ⟨rfl, rfl⟩) | ((with_reducible refine (mod_to dy (b : Int) _ HE.out (by omega) (by omega)).mono ?_); rintro ez wz ⟨rfl, rfl⟩))
      | fail)
  all_goals
    have S1 := S0.drew
    clear c0 c1 c2
    go_wp2_with fail
    go_loopw [7] (fun i wr => ∃ x : Nat, x ≤ a ∧ i = .int .i64 x ∧ (∀ x' y' : Nat, x' < x → y' < b → pl a b bs ((x' : Int) + (d : Int)) ((y' : Int) + (e : Int)) = pl a b bs (x' : Int) (y' : Int)) ∧ St w [.rd A (b * a) (bs.map Value.bool), .blk w.heap.size 24 #[.int .i64 a, .int .i64 b, .slice A (b * a) c]] wr) (fun i _ => a - (intOf i).toNat)
    case atStart => exact ⟨0, Nat.zero_le _, rfl, fun _ _ h => absurd h (by omega), S1⟩
    case round =>
      clear S0 S1
      obtain ⟨x, hx, rfl, hall, S⟩ := hrel
      have HA := Lib.hid hall
      clear hall
      obtain ⟨c0, c1, c2⟩ := (S.blk 1 rfl).cell3
      by_cases hltx : x < a
      · go_wp2_with fail
        go_loopw [8] (fun i wr => ∃ y : Nat, y ≤ b ∧ i = .int .i64 y ∧ (∀ y' : Nat, y' < y → pl a b bs ((x : Int) + (d : Int)) ((y' : Int) + (e : Int)) = pl a b bs (x : Int) (y' : Int)) ∧ St w [.rd A (b * a) (bs.map Value.bool), .blk w.heap.size 24 #[.int .i64 a, .int .i64 b, .slice A (b * a) c]] wr) (fun i _ => b - (intOf i).toNat)
        case atStart => exact ⟨0, Nat.zero_le _, rfl, fun _ h => absurd h (by omega), S⟩
        case round =>
          clear S c0 c1 c2
          obtain ⟨y, hy, rfl, hall, S⟩ := hrel
          have HB := Lib.hid hall
          clear hall
          obtain ⟨c0, c1, c2⟩ := (S.blk 1 rfl).cell3
          by_cases hlt : y < b
          · have hw1 : IntKind.i64.wrap ((x : Int) + (d : Int)) = (x : Int) + (d : Int) := IntWalk.i64_in _ (by omega)
            have hw2 : IntKind.i64.wrap ((y : Int) + (e : Int)) = (y : Int) + (e : Int) := IntWalk.i64_in _ (by omega)
            have SD := S.drew
            rcases Bool.eq_false_or_eq_true (pl a b bs (x : Int) (y : Int)) with h1 | h1 <;> rcases Bool.eq_false_or_eq_true (pl a b bs ((x : Int) + (d : Int)) ((y : Int) + (e : Int))) with h2 | h2
            all_goals
              have H1 := Lib.hid h1
              have H2 := Lib.hid h2
              clear h1 h2
              go_wp2_with fail
              go_region_held3 (fun w' => w'.cell? ⟨w.heap.size, 0, none⟩ = some (.int .i64 a) ∧ w'.cell? ⟨w.heap.size, 1, none⟩ = some (.int .i64 b) ∧ w'.cell? ⟨w.heap.size, 2, none⟩ = some (.slice A (b * a) c))
                (first | exact (SD.blk 1 rfl).cell3 | go_keep)
                (first
                  | (go_at_call 32; ((with_reducible refine (plane_to a b c A bs (x : Int) (y : Int) _ H1.out ha1 hb1 ha hb (SD.rd 0 rfl)).mono ?_); rintro ez wz ⟨rfl, hbz⟩; replace SD := SD.keep hbz))
                  | (go_at_call 32; ((with_reducible refine (plane_to a b c A bs ((x : Int) + (d : Int)) ((y : Int) + (e : Int)) _ H2.out ha1 hb1 ha hb (SD.rd 0 rfl)).mono ?_); rintro ez wz ⟨rfl, hbz⟩; replace SD := SD.keep hbz))
                  | fail)
            all_goals
              go_wp2_with fail
              first
                | (go_ret
                   refine ⟨ret_b' (R := R) HI.out hltx hlt (by rw [H1.out, H2.out]; simp), SD.below⟩)
                | (go_roundw
                   case rel =>
                     refine ⟨y + 1, by omega, by go_num, fun y' hy' => ?_, SD⟩
                     rcases Nat.lt_or_ge y' y with h | h
                     · exact HB.out y' h
                     · obtain rfl : y' = y := by omega
                       rw [H1.out, H2.out]
                   case measure => simp [intOf]; omega)
          · obtain rfl : y = b := by omega
            go_wp2_with fail
            go_roundw
            case rel =>
              refine ⟨x + 1, by omega, by go_num, fun x' y' hx' hy' => ?_, S⟩
              rcases Nat.lt_or_ge x' x with h | h
              · exact HA.out x' y' h hy'
              · obtain rfl : x' = x := by omega
                exact HB.out y' hy'
            case measure => simp [intOf]; omega
      · obtain rfl : x = a := by omega
        go_wp2_with fail
        go_ret
        exact ⟨ret_b2 (HI.out.2 HA.out).symm, S.below⟩
end Go.Proofs.Ytbgekiifffnalaa
