/- raddleref06.meets: whether two planes meet by a step. -/
import Derived.Test.YtliibficmdomjaaMeetP
import Derived.Test.YtliibficmdomjaaRRect
namespace Go.Proofs.Ytliibficmdomjaa
open Go.RowKit

theorem ret_m {R : Bool} {a b : Nat} {p q : Nat → Nat → Bool} (h : R = true ↔ ∀ x y : Nat, x < a → y < b → p x y = q x y) {x y : Nat} (hx : x < a) (hy : y < b) (hn : p x y ≠ q x y) : Ending.returned (.bool false) = Ending.returned (.bool R) := ret_b' h hx hy hn

set_option maxHeartbeats 4000000 in
theorem meets_any (R : Bool) (a b c a' b' c' dx dy : Nat) (A A' : Option Addr) (bs bs' : List Bool) (w : World) (hR : R = true ↔ Meets a b bs a' b' bs' dx dy)
    (ha1 : 1 ≤ a) (hb1 : 1 ≤ b) (ha : a ≤ 64) (hb : b ≤ 64) (ha1' : 1 ≤ a') (hb1' : 1 ≤ b') (ha' : a' ≤ 64) (hb' : b' ≤ 64) (hdx : dx ≤ 64) (hdy : dy ≤ 64)
    (hr : Rd w A (b * a) (bs.map Value.bool)) (hr' : Rd w A' (b' * a') (bs'.map Value.bool)) :
    Calls Try.prog 59 #[.agg #[.int .i64 a, .int .i64 b, .slice A (b * a) c], .agg #[.int .i64 a', .int .i64 b', .slice A' (b' * a') c'], .int .i64 dx, .int .i64 dy] w fun e w' => e = .returned (.bool R) ∧ Below w.heap.size w w' := by
  have HI := Lib.hid (hR.trans (meets_range (Nat.dvd_lcm_left a a') (Nat.dvd_lcm_right a a') (Nat.dvd_lcm_left b b') (Nat.dvd_lcm_right b b') (Nat.lcm_pos ha1 ha1') (Nat.lcm_pos hb1 hb1')))
  clear hR
  have g1 : 0 < Nat.gcd a a' := Nat.gcd_pos_of_pos_left a' ha1
  have g2 : 0 < Nat.gcd b b' := Nat.gcd_pos_of_pos_left b' hb1
  have p1 : a * a' ≤ 64 * 64 := Nat.mul_le_mul ha ha'
  have p2 : b * b' ≤ 64 * 64 := Nat.mul_le_mul hb hb'
  have q1 : (a : Int) * (a' : Int) = ((a * a' : Nat) : Int) := (Int.natCast_mul a a').symm
  have q2 : (b : Int) * (b' : Int) = ((b * b' : Nat) : Int) := (Int.natCast_mul b b').symm
  have d1 : ((a * a' : Nat) : Int).tdiv ((Nat.gcd a a' : Nat) : Int) = ((Nat.lcm a a' : Nat) : Int) := by rw [Int.tdiv_eq_ediv_of_nonneg (by omega)]; rfl
  have d2 : ((b * b' : Nat) : Int).tdiv ((Nat.gcd b b' : Nat) : Int) = ((Nat.lcm b b' : Nat) : Int) := by rw [Int.tdiv_eq_ediv_of_nonneg (by omega)]; rfl
  have l1 : Nat.lcm a a' ≤ a * a' := Nat.div_le_self _ _
  have l2 : Nat.lcm b b' ≤ b * b' := Nat.div_le_self _ _
  obtain ⟨D, hD⟩ : ∃ D, Nat.gcd a a' = D := ⟨_, rfl⟩
  obtain ⟨E, hE⟩ : ∃ D, Nat.gcd b b' = D := ⟨_, rfl⟩
  have HD := Lib.hid (congrArg (fun q : Nat => (q : Int)) hD)
  have HE := Lib.hid (congrArg (fun q : Nat => (q : Int)) hE)
  rw [hD] at g1 d1
  rw [hE] at g2 d2
  clear hD hE
  generalize Nat.lcm a a' = L at *
  generalize Nat.lcm b b' = M at *
  generalize a * a' = P at *
  generalize b * b' = Q at *
  have w1 : IntKind.i64.wrap (P : Int) = (P : Int) := IntWalk.i64_in _ (by omega)
  have w2 : IntKind.i64.wrap (Q : Int) = (Q : Int) := IntWalk.i64_in _ (by omega)
  have w3 : IntKind.i64.wrap (L : Int) = (L : Int) := IntWalk.i64_in _ (by omega)
  have w4 : IntKind.i64.wrap (M : Int) = (M : Int) := IntWalk.i64_in _ (by omega)
  have n1 : ¬ (D : Int) = 0 := by omega
  have n2 : ¬ (E : Int) = 0 := by omega
  have n3 : ¬ D = 0 := by omega
  have n4 : ¬ E = 0 := by omega
  have S0 := ((((St.start w).addRd hr).addRd hr').box #[.int .i64 a, .int .i64 b, .slice A (b * a) c] 24).box #[.int .i64 a', .int .i64 b', .slice A' (b' * a') c'] 24
  simp only [size_alloc1, List.nil_append, List.cons_append] at S0
  obtain ⟨c0, c1, c2⟩ := (S0.blk 2 rfl).cell3
  obtain ⟨e0, e1, e2⟩ := (S0.blk 3 rfl).cell3
  clear hr hr'
  go_enter Try.func59, Try.ntmps59
  go_wp2_with fail
  go_quiet ((go_at_call 53; first | (with_reducible exact Calls.quiet_of (gcd_to a a' _ HD.out (by omega))) | (with_reducible exact Calls.quiet_of (gcd_to b b' _ HE.out (by omega)))))
  have S1 := S0.drewN nq
  clear c0 c1 c2 e0 e1 e2 w1 w2 w3 w4 q1 q2 d1 d2
  go_wp2_with fail
  go_loopw [11] (fun i wr => ∃ x : Nat, x ≤ L ∧ i = .int .i64 x ∧ (∀ x' y' : Nat, x' < x → y' < M → pl a b bs (x' : Int) (y' : Int) = pl a' b' bs' ((x' : Int) + (dx : Int)) ((y' : Int) + (dy : Int))) ∧
      St w [.rd A (b * a) (bs.map Value.bool), .rd A' (b' * a') (bs'.map Value.bool), .blk w.heap.size 24 #[.int .i64 a, .int .i64 b, .slice A (b * a) c], .blk (w.heap.size + 1) 24 #[.int .i64 a', .int .i64 b', .slice A' (b' * a') c']] wr) (fun i _ => L - (intOf i).toNat)
  case atStart => exact ⟨0, Nat.zero_le _, rfl, fun _ _ h => absurd h (by omega), S1⟩
  case round =>
    clear S0 S1
    obtain ⟨x, hx, rfl, hall, S⟩ := hrel
    have HA := Lib.hid hall
    clear hall
    by_cases hltx : x < L
    · go_wp2_with fail
      go_loopw [12] (fun i wr => ∃ y : Nat, y ≤ M ∧ i = .int .i64 y ∧ (∀ y' : Nat, y' < y → pl a b bs (x : Int) (y' : Int) = pl a' b' bs' ((x : Int) + (dx : Int)) ((y' : Int) + (dy : Int))) ∧
          St w [.rd A (b * a) (bs.map Value.bool), .rd A' (b' * a') (bs'.map Value.bool), .blk w.heap.size 24 #[.int .i64 a, .int .i64 b, .slice A (b * a) c], .blk (w.heap.size + 1) 24 #[.int .i64 a', .int .i64 b', .slice A' (b' * a') c']] wr) (fun i _ => M - (intOf i).toNat)
      case atStart => exact ⟨0, Nat.zero_le _, rfl, fun _ h => absurd h (by omega), S⟩
      case round =>
        clear S
        obtain ⟨y, hy, rfl, hall, S⟩ := hrel
        have HB := Lib.hid hall
        clear hall
        obtain ⟨c0, c1, c2⟩ := (S.blk 2 rfl).cell3
        obtain ⟨e0, e1, e2⟩ := (S.blk 3 rfl).cell3
        by_cases hlt : y < M
        · have hw1 : IntKind.i64.wrap ((x : Int) + (dx : Int)) = (x : Int) + (dx : Int) := IntWalk.i64_in _ (by omega)
          have hw2 : IntKind.i64.wrap ((y : Int) + (dy : Int)) = (y : Int) + (dy : Int) := IntWalk.i64_in _ (by omega)
          have SD := S.drew
          rcases Bool.eq_false_or_eq_true (pl a b bs (x : Int) (y : Int)) with h1 | h1 <;> rcases Bool.eq_false_or_eq_true (pl a' b' bs' ((x : Int) + (dx : Int)) ((y : Int) + (dy : Int))) with h2 | h2
          all_goals
            have H1 := Lib.hid h1
            have H2 := Lib.hid h2
            clear h1 h2
            go_wp2_with fail
            go_region_held3 (fun w' => (w'.cell? ⟨w.heap.size, 0, none⟩ = some (.int .i64 a) ∧ w'.cell? ⟨w.heap.size, 1, none⟩ = some (.int .i64 b) ∧ w'.cell? ⟨w.heap.size, 2, none⟩ = some (.slice A (b * a) c)) ∧
                (w'.cell? ⟨w.heap.size + 1, 0, none⟩ = some (.int .i64 a') ∧ w'.cell? ⟨w.heap.size + 1, 1, none⟩ = some (.int .i64 b') ∧ w'.cell? ⟨w.heap.size + 1, 2, none⟩ = some (.slice A' (b' * a') c')))
              (first | exact ⟨(SD.blk 2 rfl).cell3, (SD.blk 3 rfl).cell3⟩ | go_keep)
              (first
                | (go_at_call 62; ((with_reducible refine (plane_to a b c A bs (x : Int) (y : Int) _ H1.out ha1 hb1 ha hb (SD.rd 0 rfl)).mono ?_); rintro ez wz ⟨rfl, hbz⟩; replace SD := SD.keep hbz))
                | (go_at_call 62; ((with_reducible refine (plane_to a' b' c' A' bs' ((x : Int) + (dx : Int)) ((y : Int) + (dy : Int)) _ H2.out ha1' hb1' ha' hb' (SD.rd 1 rfl)).mono ?_); rintro ez wz ⟨rfl, hbz⟩; replace SD := SD.keep hbz))
                | fail)
          all_goals
            go_wp2_with fail
            first
              | (go_ret
                 refine ⟨ret_m (R := R) HI.out hltx hlt (by rw [H1.out, H2.out]; simp), SD.below⟩)
              | (go_roundw
                 case rel =>
                   refine ⟨y + 1, by omega, by go_num, fun y' hy' => ?_, SD⟩
                   rcases Nat.lt_or_ge y' y with h | h
                   · exact HB.out y' h
                   · obtain rfl : y' = y := by omega
                     rw [H1.out, H2.out]
                 case measure => simp [intOf]; omega)
        · have hyM : y = M := by omega
          go_wp2_with fail
          go_roundw
          case rel =>
            refine ⟨x + 1, by omega, by go_num, fun x' y' hx' hy' => ?_, S⟩
            rcases Nat.lt_or_ge x' x with h | h
            · exact HA.out x' y' h hy'
            · obtain rfl : x' = x := by omega
              exact HB.out y' (by omega)
          case measure => simp [intOf]; omega
    · have hxL : x = L := by omega
      go_wp2_with fail
      go_ret
      exact ⟨ret_b2 (HI.out.2 fun x' y' h1 h2 => HA.out x' y' (by omega) h2).symm, S.below⟩
end Go.Proofs.Ytliibficmdomjaa
