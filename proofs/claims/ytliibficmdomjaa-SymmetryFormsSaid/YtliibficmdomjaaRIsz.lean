/- raddleref06.is: whether a step is a repeat. -/
import Derived.Test.YtliibficmdomjaaMg13z
import Derived.Test.YtliibficmdomjaaRCellz
import Derived.Test.YtliibficmdomjaaRepPz
import Derived.Test.YtliibficmdomjaaMg6z
import Derived.Deep.RegionHeld3
import Derived.Deep.DeepMust
import Derived.Outline
namespace Go.Proofs.Ytliibficmdomjaa
open Go.RowKit

theorem repB_cells {a b d e : Nat} {bs : List Bool} {dx dy : Int} (h1 : dx % (a : Int) = (d : Int)) (h2 : dy % (b : Int) = (e : Int)) :
    repB a b bs dx dy = true ↔ ∀ x y : Nat, x < a → y < b → pl a b bs ((x : Int) + (d : Int)) ((y : Int) + (e : Int)) = pl a b bs (x : Int) (y : Int) := by
  rw [← repB_mod, h1, h2, repB_iff]

set_option maxHeartbeats 2000000 in
theorem ris_any (a b c : Nat) (A : Option Addr) (bs : List Bool) (dx dy : Int) (w : World) (ha1 : 1 ≤ a) (hb1 : 1 ≤ b) (ha : a ≤ 64) (hb : b ≤ 64) (hr : Rd w A (b * a) (bs.map Value.bool)) :
    Calls Try.prog 61 #[.agg #[.int .i64 a, .int .i64 b, .slice A (b * a) c], .int .i64 dx, .int .i64 dy] w fun e w' => e = .returned (.bool (repB a b bs dx dy)) ∧ Below w.heap.size w w' := by
  have u1 := Int.emod_nonneg dx (show (a : Int) ≠ 0 by omega)
  have u2 := Int.emod_lt_of_pos dx (show 0 < (a : Int) by omega)
  have v1 := Int.emod_nonneg dy (show (b : Int) ≠ 0 by omega)
  have v2 := Int.emod_lt_of_pos dy (show 0 < (b : Int) by omega)
  obtain ⟨d, hd⟩ : ∃ d : Nat, dx % (a : Int) = (d : Int) := ⟨(dx % (a : Int)).toNat, by omega⟩
  obtain ⟨e, he⟩ : ∃ e : Nat, dy % (b : Int) = (e : Int) := ⟨(dy % (b : Int)).toNat, by omega⟩
  have hda : d < a := by omega
  have heb : e < b := by omega
  have HI := Lib.hid (repB_cells (bs := bs) hd he)
  have HD := Lib.hid hd
  have HE := Lib.hid he
  clear hd he u1 u2 v1 v2
  generalize repB a b bs dx dy = R at *
  have S0 := ((St.start w).addRd hr).box #[.int .i64 a, .int .i64 b, .slice A (b * a) c] 24
  simp only [List.nil_append, List.cons_append] at S0
  obtain ⟨c0, c1, c2⟩ := (S0.blk 1 rfl).cell3
  clear hr
  go_enter Try.func61, Try.ntmps61
  go_wp2_with fail
  go_region_held3 (fun w' => w'.cell? ⟨w.heap.size, 0, none⟩ = some (.int .i64 a) ∧ w'.cell? ⟨w.heap.size, 1, none⟩ = some (.int .i64 b) ∧ w'.cell? ⟨w.heap.size, 2, none⟩ = some (.slice A (b * a) c))
    (first | exact (S0.drew.blk 1 rfl).cell3 | go_keep)
    (first
      | (go_at_call 55; first | ((with_reducible refine (mod_to dx (a : Int) _ HD.out (by omega) (by omega)).mono ?_); rintro ez wz ⟨rfl, rfl⟩) | ((with_reducible refine (mod_to dy (b : Int) _ HE.out (by omega) (by omega)).mono ?_); rintro ez wz ⟨rfl, rfl⟩))
      | fail)
  all_goals
    have S1 := S0.drew
    clear c0 c1 c2
    go_wp2_with fail
    go_loopw [7] (fun i wr => ∃ x : Nat, x ≤ a ∧ i = .int .i64 x ∧ (∀ x' y' : Nat, x' < x → y' < b → pl a b bs ((x' : Int) + (d : Int)) ((y' : Int) + (e : Int)) = pl a b bs (x' : Int) (y' : Int)) ∧ St w [.rd A (b * a) (bs.map Value.bool), .blk w.heap.size 24 #[.int .i64 a, .int .i64 b, .slice A (b * a) c]] wr) (fun i _ => a - (intOf i).toNat)
    case atStart => exact ⟨0, Nat.zero_le _, rfl, fun _ _ h => absurd h (by omega), S1⟩
    case round =>
      clear S0 S1
      obtain ⟨x, hx, rfl, hall, S⟩ := hrel
      have HA := Lib.hid hall
      clear hall
      obtain ⟨c0, c1, c2⟩ := (S.blk 1 rfl).cell3
      by_cases hltx : x < a
      · go_wp2_with fail
        go_loopw [8] (fun i wr => ∃ y : Nat, y ≤ b ∧ i = .int .i64 y ∧ (∀ y' : Nat, y' < y → pl a b bs ((x : Int) + (d : Int)) ((y' : Int) + (e : Int)) = pl a b bs (x : Int) (y' : Int)) ∧ St w [.rd A (b * a) (bs.map Value.bool), .blk w.heap.size 24 #[.int .i64 a, .int .i64 b, .slice A (b * a) c]] wr) (fun i _ => b - (intOf i).toNat)
        case atStart => exact ⟨0, Nat.zero_le _, rfl, fun _ h => absurd h (by omega), S⟩
        case round =>
          clear S c0 c1 c2
          obtain ⟨y, hy, rfl, hall, S⟩ := hrel
          have HB := Lib.hid hall
          clear hall
          obtain ⟨c0, c1, c2⟩ := (S.blk 1 rfl).cell3
          by_cases hlt : y < b
          · have hw1 : IntKind.i64.wrap ((x : Int) + (d : Int)) = (x : Int) + (d : Int) := IntWalk.i64_in _ (by omega)
            have hw2 : IntKind.i64.wrap ((y : Int) + (e : Int)) = (y : Int) + (e : Int) := IntWalk.i64_in _ (by omega)
            have SD := S.drew
            rcases Bool.eq_false_or_eq_true (pl a b bs (x : Int) (y : Int)) with h1 | h1 <;> rcases Bool.eq_false_or_eq_true (pl a b bs ((x : Int) + (d : Int)) ((y : Int) + (e : Int))) with h2 | h2
            all_goals
              have H1 := Lib.hid h1
              have H2 := Lib.hid h2
              clear h1 h2
              go_wp2_with fail
              go_region_held3 (fun w' => w'.cell? ⟨w.heap.size, 0, none⟩ = some (.int .i64 a) ∧ w'.cell? ⟨w.heap.size, 1, none⟩ = some (.int .i64 b) ∧ w'.cell? ⟨w.heap.size, 2, none⟩ = some (.slice A (b * a) c))
                (first | exact (SD.blk 1 rfl).cell3 | go_keep)
                (first
                  | (go_at_call 62; ((with_reducible refine (plane_to a b c A bs (x : Int) (y : Int) _ H1.out ha1 hb1 ha hb (SD.rd 0 rfl)).mono ?_); rintro ez wz ⟨rfl, hbz⟩; replace SD := SD.keep hbz))
                  | (go_at_call 62; ((with_reducible refine (plane_to a b c A bs ((x : Int) + (d : Int)) ((y : Int) + (e : Int)) _ H2.out ha1 hb1 ha hb (SD.rd 0 rfl)).mono ?_); rintro ez wz ⟨rfl, hbz⟩; replace SD := SD.keep hbz))
                  | fail)
            all_goals
              go_wp2_with fail
              first
                | (go_ret
                   refine ⟨ret_b' (R := R) HI.out hltx hlt (by rw [H1.out, H2.out]; simp), SD.below⟩)
                | (go_roundw
                   case rel =>
                     refine ⟨y + 1, by omega, by go_num, fun y' hy' => ?_, SD⟩
                     rcases Nat.lt_or_ge y' y with h | h
                     · exact HB.out y' h
                     · obtain rfl : y' = y := by omega
                       rw [H1.out, H2.out]
                   case measure => simp [intOf]; omega)
          · obtain rfl : y = b := by omega
            go_wp2_with fail
            go_roundw
            case rel =>
              refine ⟨x + 1, by omega, by go_num, fun x' y' hx' hy' => ?_, S⟩
              rcases Nat.lt_or_ge x' x with h | h
              · exact HA.out x' y' h hy'
              · obtain rfl : x' = x := by omega
                exact HB.out y' hy'
            case measure => simp [intOf]; omega
      · obtain rfl : x = a := by omega
        go_wp2_with fail
        go_ret
        exact ⟨ret_b2 (HI.out.2 HA.out).symm, S.below⟩
end Go.Proofs.Ytliibficmdomjaa
