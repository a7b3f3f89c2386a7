/- repeat.repeats: whether a step is a repeat of a valid grid. -/
import Derived.Test.YtliibficmdomjaaRowz
namespace Go.Proofs.Ytliibficmdomjaa
open Go.RowKit

theorem rmod_to {r : Int} (a n : Int) (w : World) (h : a % n = r) (hn : 1 ≤ n) (hn2 : n ≤ 1000000) :
    Calls Try.prog 57 #[.int .i64 a, .int .i64 n] w fun e w' => e = .returned (.int .i64 r) ∧ w' = w := h ▸ rmod_any a n w hn hn2
theorem turned_to {r : Bool} (a d bl o1 o2 : Nat) (p q : List Bool) (w : World) (h : turnedB p q d = r) (ha : a ≤ 64) (hd : d < a) (hp : Rd w (some ⟨bl, o1, none⟩) a (p.map Value.bool)) (hq : Rd w (some ⟨bl, o2, none⟩) a (q.map Value.bool)) :
    Calls Try.prog 63 #[.slice (some ⟨bl, o1, none⟩) a a, .slice (some ⟨bl, o2, none⟩) a a, .int .i64 d] w fun e w' => e = .returned (.bool r) ∧ Below w.heap.size w w' := h ▸ rowturned_any a d bl o1 o2 p q w ha hd hp hq
theorem repB_step {a b d e : Nat} {bs : List Bool} {dx dy : Int} (h1 : dx % (a : Int) = (d : Int)) (h2 : dy % (b : Int) = (e : Int)) (hd : d < a) :
    repB a b bs dx dy = true ↔ ∀ y : Nat, y < b → turnedB (rowL a b bs ((y : Int) + (e : Int))) (rowL a b bs (y : Int)) d = true := by
  rw [← repB_mod, h1, h2]
  exact repB_rows hd

set_option maxHeartbeats 2000000 in
theorem repeats_any (a b bl o c : Nat) (bs : List Bool) (dx dy : Int) (w : World) (ha1 : 1 ≤ a) (hb1 : 1 ≤ b) (ha : a ≤ 64) (hb : b ≤ 64) (hc : b * a ≤ c) (hr : Rd w (some ⟨bl, o, none⟩) (b * a) (bs.map Value.bool)) :
    Calls Try.prog 60 #[.agg #[.int .i64 a, .int .i64 b, .slice (some ⟨bl, o, none⟩) (b * a) c], .int .i64 dx, .int .i64 dy] w fun e w' => e = .returned (.bool (repB a b bs dx dy)) ∧ Below w.heap.size w w' := by
  have u1 := Int.emod_nonneg dx (show (a : Int) ≠ 0 by omega)
  have u2 := Int.emod_lt_of_pos dx (show 0 < (a : Int) by omega)
  have v1 := Int.emod_nonneg dy (show (b : Int) ≠ 0 by omega)
  have v2 := Int.emod_lt_of_pos dy (show 0 < (b : Int) by omega)
  obtain ⟨d, hd⟩ : ∃ d : Nat, dx % (a : Int) = (d : Int) := ⟨(dx % (a : Int)).toNat, by omega⟩
  obtain ⟨e, he⟩ : ∃ e : Nat, dy % (b : Int) = (e : Int) := ⟨(dy % (b : Int)).toNat, by omega⟩
  have hda : d < a := by omega
  have heb : e < b := by omega
  have HI := Lib.hid (repB_step (bs := bs) hd he hda)
  have HD := Lib.hid hd
  have HE := Lib.hid he
  clear hd he u1 u2 v1 v2
  generalize repB a b bs dx dy = R at *
  have S0 := (St.start w).box #[.int .i64 a, .int .i64 b, .slice (some ⟨bl, o, none⟩) (b * a) c] 24
  simp only [List.nil_append] at S0
  obtain ⟨c0, c1, c2⟩ := (S0.blk 0 rfl).cell3
  have HR := Lib.hid (fun wz (hz : Below w.heap.size w wz) Y => rd_row Y (hr.below hz) hb1)
  clear hr
  go_enter Try.func60, Try.ntmps60
  go_wp2_with fail
  refine (rmod_to dx (a : Int) _ HD.out (by omega) (by omega)).mono ?_
  rintro e0 w1 ⟨rfl, rfl⟩
  go_wp2_with fail
  go_loopw [14] (fun i wr => ∃ y : Nat, y ≤ b ∧ i = .int .i64 y ∧ (∀ y' : Nat, y' < y → turnedB (rowL a b bs ((y' : Int) + (e : Int))) (rowL a b bs (y' : Int)) d = true) ∧ St w [.blk w.heap.size 24 #[.int .i64 a, .int .i64 b, .slice (some ⟨bl, o, none⟩) (b * a) c]] wr) (fun i _ => b - (intOf i).toNat)
  case atStart => exact ⟨0, Nat.zero_le _, rfl, fun _ h => absurd h (by omega), S0⟩
  case round =>
    clear S0 c0 c1 c2
    obtain ⟨y, hy, rfl, hall, S⟩ := hrel
    have HA := Lib.hid hall
    clear hall
    obtain ⟨c0, c1, c2⟩ := (S.blk 0 rfl).cell3
    by_cases hlt : y < b
    · have hw : IntKind.i64.wrap ((y : Int) + (e : Int)) = (y : Int) + (e : Int) := IntWalk.i64_in _ (by omega)
      have SD := S.drew
      rcases Bool.eq_false_or_eq_true (turnedB (rowL a b bs ((y : Int) + (e : Int))) (rowL a b bs (y : Int)) d) with hT | hT
      all_goals
        have HT := Lib.hid hT
        clear hT
        go_wp2_with fail
        go_region_held3 (fun w' => w'.cell? ⟨w.heap.size, 0, none⟩ = some (.int .i64 a) ∧ w'.cell? ⟨w.heap.size, 1, none⟩ = some (.int .i64 b) ∧ w'.cell? ⟨w.heap.size, 2, none⟩ = some (.slice (some ⟨bl, o, none⟩) (b * a) c))
          (first | exact (SD.blk 0 rfl).cell3 | go_keep)
          (first
            | (go_at_call 57; refine (rmod_to dy (b : Int) _ HE.out (by omega) (by omega)).mono ?_; rintro ez wz ⟨rfl, rfl⟩)
            | (go_at_call 56; refine (row_any a b bl o c _ _ ha1 hb1 ha hb hc).mono ?_; rintro ez wz ⟨rfl, hbz⟩; replace SD := SD.keep hbz)
            | (go_at_call 63; refine (turned_to a d bl _ _ _ _ _ HT.out ha hda (HR.out _ SD.below _) (HR.out _ SD.below _)).mono ?_; rintro ez wz ⟨rfl, hbz⟩; replace SD := SD.keep hbz)
            | fail)
      · go_wp2_with fail
        go_roundw
        case rel =>
          refine ⟨y + 1, by omega, by go_num, fun y' hy' => ?_, SD⟩
          rcases Nat.lt_or_ge y' y with h | h
          · exact HA.out y' h
          · obtain rfl : y' = y := by omega
            exact HT.out
        case measure => simp [intOf]; omega
      · have hR : Hid (R = false) := Lib.hid (by
          rcases Bool.eq_false_or_eq_true R with h | h
          · have := HI.out.1 h y hlt
            rw [HT.out] at this
            cases this
          · exact h)
        go_wp2_with fail
        go_ret
        exact ⟨ret_e hR.out.symm, SD.below⟩
    · obtain rfl : y = b := by omega
      go_wp2_with fail
      go_ret
      exact ⟨ret_e (HI.out.2 HA.out).symm, S.below⟩
end Go.Proofs.Ytliibficmdomjaa
