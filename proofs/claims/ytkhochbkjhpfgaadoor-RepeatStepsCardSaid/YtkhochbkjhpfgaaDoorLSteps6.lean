/- The law RepeatSteps, walked: it answers true and turns nothing that was there, for any lattice and numbers. -/
import Derived.Test.YtkhochbkjhpfgaaDoorAlive6
import Derived.Test.YtkhochbkjhpfgaaDoorStepP
import Derived.Test.YtkhochbkjhpfgaaDoorIn6
namespace Go.Proofs.YtkhochbkjhpfgaaDoor
open Go.RowKit

def mx2 (a b : Int) : Int := if b > a then b else a
def mn2 (a b : Int) : Int := if b < a then b else a
def mx4 (a b c d : Int) : Int := mx2 (mx2 (mx2 a b) c) d
def mn4 (a b c d : Int) : Int := mn2 (mn2 (mn2 a b) c) d
theorem mx2_le {a b m : Int} : mx2 a b ≤ m ↔ a ≤ m ∧ b ≤ m := by unfold mx2; split <;> omega
theorem mn2_ge {a b m : Int} : m ≤ mn2 a b ↔ m ≤ a ∧ m ≤ b := by unfold mn2; split <;> omega
theorem mx4_le {a b c d m : Int} : mx4 a b c d ≤ m ↔ a ≤ m ∧ b ≤ m ∧ c ≤ m ∧ d ≤ m := by unfold mx4; rw [mx2_le, mx2_le, mx2_le]; omega
theorem mn4_ge {a b c d m : Int} : m ≤ mn4 a b c d ↔ m ≤ a ∧ m ≤ b ∧ m ≤ c ∧ m ≤ d := by unfold mn4; rw [mn2_ge, mn2_ge, mn2_ge]; omega
theorem run_max4 (P : Program) (w : World) (ts : Array TypeId) (t : TypeId) (k k' k'' k3 : IntKind) (a b c d : Int) : (Builtin.max_ ts t #[.int k a, .int k' b, .int k'' c, .int k3 d]).run P w = .ok (.int k (mx4 a b c d)) w := by
  simp [Builtin.max_, Builtin.max2, mx4, mx2]
theorem run_min4 (P : Program) (w : World) (ts : Array TypeId) (t : TypeId) (k k' k'' k3 : IntKind) (a b c d : Int) : (Builtin.min_ ts t #[.int k a, .int k' b, .int k'' c, .int k3 d]).run P w = .ok (.int k (mn4 a b c d)) w := by
  simp [Builtin.min_, Builtin.min2, mn4, mn2]
  first | rfl | (split <;> split <;> rfl) | congr
theorem in_to {A B C dx dy : Int} {b : Bool} (h : chkL A B C = 0) (hb : inV A B C dx dy = b) (X Y : Int) (hX : X = dx) (hY : Y = dy) (hy1 : -9223372036854775808 ≤ dy) (hy2 : dy ≤ 9223372036854775807) (w : World) :
    Calls Tryd.prog 11 #[.agg #[.int .i64 A, .int .i64 B, .int .i64 C], .int .i64 X, .int .i64 Y] w fun e w' => e = .returned (.tuple #[.bool b, .int .i64 0]) ∧ Below w.heap.size w w' := by
  subst hX hY
  have := in_any A B C X Y w hy1 hy2
  rw [inL_ok h, hb] at this
  exact this

set_option maxHeartbeats 4000000 in
set_option maxRecDepth 100000 in
theorem steps_main (A B C i k x y : Int) (w : World) (hc : chkL A B C = 0) (hi1 : -1000000 ≤ i) (hi2 : i ≤ 1000000) (hk1 : -1000000 ≤ k) (hk2 : k ≤ 1000000) (hx1 : -1000000 ≤ x) (hx2 : x ≤ 1000000) (hy1 : -1000000 ≤ y) (hy2 : y ≤ 1000000) :
    Calls Tryd.prog 3 #[.agg #[.int .i64 A, .int .i64 B, .int .i64 C], .int .i64 i, .int .i64 k, .int .i64 x, .int .i64 y] w fun e w' => e = .returned (.bool true) ∧ Below w.heap.size w w' := by
  obtain ⟨a1, a2, g1, g2, b1, b2⟩ := chkL_zero hc
  have m1 := mul_small hi1 hi2 (show 0 ≤ A by omega) a2
  have m2 := mul_small hk1 hk2 b1 (show B ≤ 64 by omega)
  have m3 := mul_small hk1 hk2 (show 0 ≤ C by omega) g2
  have v1 : inV A B C (i * A + k * B) (k * C) = true := (inV_iff g1).2 ⟨i, k, rfl, rfl⟩
  have v3 : inV A B C (x + (i * A + k * B)) (y + k * C) = inV A B C x y := inV_add g1 v1
  have v4 : inV A B C (-x) (-y) = inV A B C x y := inV_neg g1
  have vs : inV A B C x y = true → -C < y → y < C → y = 0 ∧ x.tmod A = 0 := fun h h1 h2 => inV_short g1 h h1 h2
  obtain ⟨b, hb⟩ : ∃ b, inV A B C x y = b := ⟨_, rfl⟩
  rw [hb] at v3 v4 vs
  obtain ⟨P, hP⟩ : ∃ P, i * A = P := ⟨_, rfl⟩
  obtain ⟨Q, hQ⟩ : ∃ Q, k * B = Q := ⟨_, rfl⟩
  obtain ⟨R, hR⟩ : ∃ R, k * C = R := ⟨_, rfl⟩
  rw [hP] at m1 v1 v3
  rw [hQ] at m2 v1 v3
  rw [hR] at m3 v1 v3
  have H1 := Lib.hid (fun X Y hX hY W => in_to hc v1 X Y hX hY (by omega) (by omega) W)
  have H2 := Lib.hid (fun X Y hX hY W => in_to hc hb X Y hX hY (by omega) (by omega) W)
  have H3 := Lib.hid (fun X Y hX hY W => in_to hc v3 X Y hX hY (by omega) (by omega) W)
  have H4 := Lib.hid (fun X Y hX hY W => in_to hc v4 X Y hX hY (by omega) (by omega) W)
  have HC := Lib.hid (fun W => lcheck_to A B C W hc)
  have HRC := Lib.hid (fun W => (hc ▸ rlcheck_any A B C W : Calls Tryd.prog 9 #[.agg #[.int .i64 A, .int .i64 B, .int .i64 C]] W fun e w' => e = .returned (.int .i64 0) ∧ Below W.heap.size W w'))
  have w1 : IntKind.i64.wrap P = P := IntWalk.i64_in _ (by omega)
  have w2 : IntKind.i64.wrap Q = Q := IntWalk.i64_in _ (by omega)
  have w3 : IntKind.i64.wrap R = R := IntWalk.i64_in _ (by omega)
  have w4 : IntKind.i64.wrap (P + Q) = P + Q := IntWalk.i64_in _ (by omega)
  have w5 : IntKind.i64.wrap (x + P) = x + P := IntWalk.i64_in _ (by omega)
  have w6 : IntKind.i64.wrap (x + P + Q) = x + P + Q := IntWalk.i64_in _ (by omega)
  have w7 : IntKind.i64.wrap (y + R) = y + R := IntWalk.i64_in _ (by omega)
  have w8 : IntKind.i64.wrap (-x) = -x := IntWalk.i64_in _ (by omega)
  have w9 : IntKind.i64.wrap (-y) = -y := IntWalk.i64_in _ (by omega)
  have wC : IntKind.i64.wrap (-C) = -C := IntWalk.i64_in _ (by omega)
  have VS := Lib.hid vs
  have nA : ¬ A = 0 := by omega
  have hM : ¬ 1000000 < mx4 i k x y := by have := (mx4_le (m := 1000000)).2 ⟨hi2, hk2, hx2, hy2⟩; omega
  have hN : ¬ mn4 i k x y < -1000000 := by have := (mn4_ge (m := -1000000)).2 ⟨hi1, hk1, hx1, hy1⟩; omega
  have S0 := (St.start w).box #[.int .i64 A, .int .i64 B, .int .i64 C] 23
  simp only [List.nil_append] at S0
  clear hc v1 v3 v4 hb vs m1 m2 m3
  obtain ⟨c0, c1, c2⟩ := (S0.blk 0 rfl).cell3
  go_enter Tryd.func3, Tryd.ntmps3
  go_wp2_with fail
  refine (HC.out _).mono ?_
  rintro e W1 ⟨rfl, hb1⟩
  have S1 := S0.keep hb1
  clear S0 c0 c1 c2
  obtain ⟨c0, c1, c2⟩ := (S1.blk 0 rfl).cell3
  go_wp2_with fail
  refine (HRC.out _).mono ?_
  rintro e W2 ⟨rfl, hb2⟩
  have S2 := S1.keep hb2
  clear S1 c0 c1 c2
  obtain ⟨c0, c1, c2⟩ := (S2.blk 0 rfl).cell3
  go_wp2_with fail
  rw [run_max4]
  simp only [Result.andThen]
  rw [Oper.upon_value]
  generalize mx4 i k x y = M at *
  go_wp2_with fail
  rw [run_min4]
  simp only [Result.andThen]
  rw [Oper.upon_value]
  generalize mn4 i k x y = N at *
  go_wp2_with fail
  refine (H1.out _ _ (by rfl) (by rfl) _).mono ?_
  rintro e W3 ⟨rfl, hb3⟩
  have S3 := S2.keep hb3
  clear S2 c0 c1 c2
  obtain ⟨c0, c1, c2⟩ := (S3.blk 0 rfl).cell3
  go_wp2_with fail
  refine (H2.out _ _ (by rfl) (by rfl) _).mono ?_
  rintro e W4 ⟨rfl, hb4⟩
  have S4 := S3.keep hb4
  clear S3 c0 c1 c2
  obtain ⟨c0, c1, c2⟩ := (S4.blk 0 rfl).cell3
  go_wp2_with fail
  refine (H3.out _ _ (by omega) (by rfl) _).mono ?_
  rintro e W5 ⟨rfl, hb5⟩
  have S5 := S4.keep hb5
  clear S4 c0 c1 c2
  obtain ⟨c0, c1, c2⟩ := (S5.blk 0 rfl).cell3
  go_wp2_with fail
  refine (H4.out _ _ (by rfl) (by rfl) _).mono ?_
  rintro e W6 ⟨rfl, hb6⟩
  have S6 := S5.keep hb6
  clear S5 c0 c1 c2
  obtain ⟨c0, c1, c2⟩ := (S6.blk 0 rfl).cell3
  by_cases hs : b = true ∧ -C < y ∧ y < C
  · obtain ⟨rfl, h1, h2⟩ := hs
    obtain ⟨e1, e2⟩ := VS.out rfl h1 h2
    subst e1
    go_wp2_with fail
    refine (alive_any _).mono ?_
    rintro e W7 ⟨rfl, hb7⟩
    go_wp2_with fail
    go_ret
    exact ⟨rfl, (S6.keep hb7).below⟩
  · cases b with
    | false =>
      go_wp2_with fail
      refine (alive_any _).mono ?_
      rintro e W7 ⟨rfl, hb7⟩
      go_wp2_with fail
      go_ret
      exact ⟨rfl, (S6.keep hb7).below⟩
    | true =>
      by_cases h1 : -C < y
      · have h2 : ¬ y < C := fun h => hs ⟨rfl, h1, h⟩
        clear hs
        go_wp2_with fail
        refine (alive_any _).mono ?_
        rintro e W7 ⟨rfl, hb7⟩
        go_wp2_with fail
        go_ret
        exact ⟨rfl, (S6.keep hb7).below⟩
      · clear hs
        go_wp2_with fail
        refine (alive_any _).mono ?_
        rintro e W7 ⟨rfl, hb7⟩
        go_wp2_with fail
        go_ret
        exact ⟨rfl, (S6.keep hb7).below⟩

set_option maxHeartbeats 1000000 in
set_option maxRecDepth 100000 in
theorem steps_walk (A B C i k x y : Int) (w : World) :
    Calls Tryd.prog 3 #[.agg #[.int .i64 A, .int .i64 B, .int .i64 C], .int .i64 i, .int .i64 k, .int .i64 x, .int .i64 y] w fun e w' => e = .returned (.bool true) ∧ Below w.heap.size w w' := by
  have S0 := (St.start w).box #[.int .i64 A, .int .i64 B, .int .i64 C] 23
  simp only [List.nil_append] at S0
  obtain ⟨c0, c1, c2⟩ := (S0.blk 0 rfl).cell3
  have HC := Lib.hid (fun W => lcheck_any A B C W)
  have HRC := Lib.hid (fun W => rlcheck_any A B C W)
  by_cases hc : chkL A B C = 0
  · by_cases hr : (-1000000 ≤ i ∧ i ≤ 1000000) ∧ (-1000000 ≤ k ∧ k ≤ 1000000) ∧ (-1000000 ≤ x ∧ x ≤ 1000000) ∧ (-1000000 ≤ y ∧ y ≤ 1000000)
    · exact steps_main A B C i k x y w hc hr.1.1 hr.1.2 hr.2.1.1 hr.2.1.2 hr.2.2.1.1 hr.2.2.1.2 hr.2.2.2.1 hr.2.2.2.2
    · rw [hc] at HC HRC
      have hMN : 1000000 < mx4 i k x y ∨ (¬ 1000000 < mx4 i k x y ∧ mn4 i k x y < -1000000) := by
        by_cases h1 : 1000000 < mx4 i k x y
        · exact .inl h1
        · by_cases h2 : mn4 i k x y < -1000000
          · exact .inr ⟨h1, h2⟩
          · have e1 := (mx4_le (a := i) (b := k) (c := x) (d := y) (m := 1000000)).1 (by omega)
            have e2 := (mn4_ge (a := i) (b := k) (c := x) (d := y) (m := -1000000)).1 (by omega)
            exact absurd ⟨⟨e2.1, e1.1⟩, ⟨e2.2.1, e1.2.1⟩, ⟨e2.2.2.1, e1.2.2.1⟩, ⟨e2.2.2.2, e1.2.2.2⟩⟩ hr
      clear hc hr
      go_enter Tryd.func3, Tryd.ntmps3
      go_wp2_with fail
      refine (HC.out _).mono ?_
      rintro e W1 ⟨rfl, hb1⟩
      have S1 := S0.keep hb1
      clear S0 c0 c1 c2
      obtain ⟨c0, c1, c2⟩ := (S1.blk 0 rfl).cell3
      go_wp2_with fail
      refine (HRC.out _).mono ?_
      rintro e W2 ⟨rfl, hb2⟩
      have S2 := S1.keep hb2
      clear S1 c0 c1 c2
      go_wp2_with fail
      rw [run_max4]
      simp only [Result.andThen]
      rw [Oper.upon_value]
      generalize mx4 i k x y = M at *
      rcases hMN with h | ⟨h, h2⟩
      · go_wp2_with fail
        refine (alive_any _).mono ?_
        rintro e W7 ⟨rfl, hb7⟩
        go_wp2_with fail
        go_ret
        exact ⟨rfl, (S2.keep hb7).below⟩
      · go_wp2_with fail
        rw [run_min4]
        simp only [Result.andThen]
        rw [Oper.upon_value]
        generalize mn4 i k x y = N at *
        go_wp2_with fail
        refine (alive_any _).mono ?_
        rintro e W7 ⟨rfl, hb7⟩
        go_wp2_with fail
        go_ret
        exact ⟨rfl, (S2.keep hb7).below⟩
  · have hcb : (chkL A B C != 0) = true := by simpa using hc
    clear hc
    generalize chkL A B C = z at *
    go_enter Tryd.func3, Tryd.ntmps3
    go_wp2_with fail
    refine (HC.out _).mono ?_
    rintro e W1 ⟨rfl, hb1⟩
    have S1 := S0.keep hb1
    clear S0 c0 c1 c2
    obtain ⟨c0, c1, c2⟩ := (S1.blk 0 rfl).cell3
    go_wp2_with fail
    refine (HRC.out _).mono ?_
    rintro e W2 ⟨rfl, hb2⟩
    have S2 := S1.keep hb2
    go_wp2_with fail
    refine (alive_any _).mono ?_
    rintro e W3 ⟨rfl, hb3⟩
    go_wp2_with fail
    go_ret
    exact ⟨rfl, (S2.keep hb3).below⟩
end Go.Proofs.YtkhochbkjhpfgaaDoor
