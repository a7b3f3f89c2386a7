/- raddlelaw06.moves: true where one plane, moved by the step, is the other. -/
import Derived.Test.YtkhochbkjhpfgaaDoorRecPz
import Derived.Test.YtkhochbkjhpfgaaDoorPlanez
import Derived.Test.YtkhochbkjhpfgaaDoorOffPz
namespace Go.Proofs.YtkhochbkjhpfgaaDoor
open Go.RowKit

set_option maxHeartbeats 4000000 in
set_option maxRecDepth 100000 in
theorem moves6_any (a b c a' b' c' : Nat) (bs bs' : List Bool) (A A' : Option Addr) (px py : Nat) (w : World) (ha1 : 1 ≤ a) (hb1 : 1 ≤ b) (ha : a ≤ 64) (hb : b ≤ 64) (ha1' : 1 ≤ a') (hb1' : 1 ≤ b') (ha' : a' ≤ 64) (hb' : b' ≤ 64)
    (hr : Rd w A (b * a) (bs.map Value.bool)) (hr' : Rd w A' (b' * a') (bs'.map Value.bool)) (hpx : px ≤ 64) (hpy : py ≤ 64) (hm : Meets a b bs a' b' bs' (px : Int) (py : Int)) :
    Calls Tryd.prog 23 #[.agg #[.int .i64 a, .int .i64 b, .slice A (b * a) c], .agg #[.int .i64 a', .int .i64 b', .slice A' (b' * a') c'], .agg #[.int .i64 px, .int .i64 py]] w fun e w' => e = .returned (.bool true) ∧ Below w.heap.size w w' := by
  have HM := Lib.hid hm
  have hP : a * a' ≤ 64 * 64 := Nat.mul_le_mul ha ha'
  have hQ : b * b' ≤ 64 * 64 := Nat.mul_le_mul hb hb'
  have q1 : (a : Int) * (a' : Int) = ((a * a' : Nat) : Int) := (Int.natCast_mul a a').symm
  have q2 : (b : Int) * (b' : Int) = ((b * b' : Nat) : Int) := (Int.natCast_mul b b').symm
  have S0 := (((((St.start w).addRd hr).addRd hr').box #[.int .i64 a, .int .i64 b, .slice A (b * a) c] 33).box #[.int .i64 a', .int .i64 b', .slice A' (b' * a') c'] 33).box #[.int .i64 px, .int .i64 py] 48
  simp only [size_alloc1, List.nil_append, List.cons_append] at S0
  generalize a * a' = P at *
  generalize b * b' = Q at *
  have w1 : IntKind.i64.wrap (P : Int) = (P : Int) := IntWalk.i64_in _ (by omega)
  have w2 : IntKind.i64.wrap (Q : Int) = (Q : Int) := IntWalk.i64_in _ (by omega)
  clear hr hr' hm
  go_enter Tryd.func23, Tryd.ntmps23
  go_wp2_with fail
  go_loopw [7] (fun i wr => ∃ x : Nat, x ≤ P ∧ i = .int .i64 x ∧
      St w [.rd A (b * a) (bs.map Value.bool), .rd A' (b' * a') (bs'.map Value.bool), .blk w.heap.size 33 #[.int .i64 a, .int .i64 b, .slice A (b * a) c], .blk (w.heap.size + 1) 33 #[.int .i64 a', .int .i64 b', .slice A' (b' * a') c'], .blk (w.heap.size + 1 + 1) 48 #[.int .i64 px, .int .i64 py]] wr) (fun i _ => P - (intOf i).toNat)
  case atStart => exact ⟨0, Nat.zero_le _, rfl, S0⟩
  case round =>
    clear S0
    obtain ⟨x, hx, rfl, S⟩ := hrel
    obtain ⟨c0, c1, c2⟩ := (S.blk 2 rfl).cell3
    obtain ⟨e0, e1, e2⟩ := (S.blk 3 rfl).cell3
    by_cases hltx : x < P
    · go_wp2_with fail
      go_loopw [8] (fun i wr => ∃ y : Nat, y ≤ Q ∧ i = .int .i64 y ∧
          St w [.rd A (b * a) (bs.map Value.bool), .rd A' (b' * a') (bs'.map Value.bool), .blk w.heap.size 33 #[.int .i64 a, .int .i64 b, .slice A (b * a) c], .blk (w.heap.size + 1) 33 #[.int .i64 a', .int .i64 b', .slice A' (b' * a') c'], .blk (w.heap.size + 1 + 1) 48 #[.int .i64 px, .int .i64 py]] wr) (fun i _ => Q - (intOf i).toNat)
      case atStart => exact ⟨0, Nat.zero_le _, rfl, S⟩
      case round =>
        clear S c0 c1 c2 e0 e1 e2
        obtain ⟨y, hy, rfl, S⟩ := hrel
        obtain ⟨c0, c1, c2⟩ := (S.blk 2 rfl).cell3
        obtain ⟨e0, e1, e2⟩ := (S.blk 3 rfl).cell3
        obtain ⟨p0, p1⟩ := (S.blk 4 rfl).cellP
        by_cases hlt : y < Q
        · have hw1 : IntKind.i64.wrap ((x : Int) + (px : Int)) = (x : Int) + (px : Int) := IntWalk.i64_in _ (by omega)
          have hw2 : IntKind.i64.wrap ((y : Int) + (py : Int)) = (y : Int) + (py : Int) := IntWalk.i64_in _ (by omega)
          have SD := S.drew
          have hv := HM.out (x : Int) (y : Int)
          rcases Bool.eq_false_or_eq_true (pl a b bs (x : Int) (y : Int)) with h1 | h1
          all_goals
            have H1 := Lib.hid h1
            have H2 := Lib.hid (hv.symm.trans h1)
            clear h1 hv
            go_wp2_with fail
            go_region_held3 (fun w' => (w'.cell? ⟨w.heap.size, 0, none⟩ = some (.int .i64 a) ∧ w'.cell? ⟨w.heap.size, 1, none⟩ = some (.int .i64 b) ∧ w'.cell? ⟨w.heap.size, 2, none⟩ = some (.slice A (b * a) c)) ∧
                (w'.cell? ⟨w.heap.size + 1, 0, none⟩ = some (.int .i64 a') ∧ w'.cell? ⟨w.heap.size + 1, 1, none⟩ = some (.int .i64 b') ∧ w'.cell? ⟨w.heap.size + 1, 2, none⟩ = some (.slice A' (b' * a') c')) ∧
                (w'.cell? ⟨w.heap.size + 1 + 1, 0, none⟩ = some (.int .i64 px) ∧ w'.cell? ⟨w.heap.size + 1 + 1, 1, none⟩ = some (.int .i64 py)))
              (first | exact ⟨(SD.blk 2 rfl).cell3, (SD.blk 3 rfl).cell3, (SD.blk 4 rfl).cellP⟩ | go_keep)
              (first
                | (go_at_call 39; ((with_reducible refine (plane_to a b c A bs (x : Int) (y : Int) _ H1.out ha1 hb1 ha hb (SD.rd 0 rfl)).mono ?_); rintro ez wz ⟨rfl, hbz⟩; replace SD := SD.keep hbz))
                | (go_at_call 39; ((with_reducible refine (plane_to a' b' c' A' bs' ((x : Int) + (px : Int)) ((y : Int) + (py : Int)) _ H2.out ha1' hb1' ha' hb' (SD.rd 1 rfl)).mono ?_); rintro ez wz ⟨rfl, hbz⟩; replace SD := SD.keep hbz))
                | fail)
          all_goals
            go_wp2_with fail
            go_roundw
            case rel => exact ⟨y + 1, by omega, by go_num, SD⟩
            case measure => simp [intOf]; omega
        · go_wp2_with fail
          go_roundw
          case rel => exact ⟨x + 1, by omega, by go_num, S⟩
          case measure => simp [intOf]; omega
    · go_wp2_with fail
      go_ret
      exact ⟨rfl, S.below⟩
end Go.Proofs.YtkhochbkjhpfgaaDoor
