/- The law SatinTurned, walked: it answers true and turns nothing that was there, for any numbers. -/
import Derived.Test.YtbgekiifffnalaaAlive9
import Derived.Test.YtbgekiifffnalaaSatR
import Derived.Test.YtbgekiifffnalaaPlace
import Derived.Test.YtbgekiifffnalaaGTurn
import Derived.Test.YtbgekiifffnalaaMirror
import Derived.Test.YtbgekiifffnalaaOffset
import Derived.Test.YtbgekiifffnalaaRSame
namespace Go.Proofs.Ytbgekiifffnalaa
open Go.RowKit

theorem off_ok (n : Nat) (bs bs' : List Bool) (x y : Nat) (h : chkG ⟨n, n, bs⟩ = 0) (h' : chkG ⟨n, n, bs'⟩ = 0) (hm : Meets n n bs n n bs' (x : Int) (y : Int)) (A0 A0' : Option Addr) (k c k' c' : Nat) (w : World) (hr : Rd w A0 k (bs.map Value.bool)) (hr' : Rd w A0' k' (bs'.map Value.bool)) (hc : k ≤ c) (hc' : k' ≤ c') :
    Calls Try.prog 36 #[.agg #[.int .i64 n, .int .i64 n, .slice A0 k c], .agg #[.int .i64 n, .int .i64 n, .slice A0' k' c']] w fun e w' => (∃ p q : Int, e = .returned (.tuple #[.agg #[.int .i64 p, .int .i64 q], .int .i64 0])) ∧ Below w.heap.size w w' := by
  refine (offset_any ⟨n, n, bs⟩ ⟨n, n, bs'⟩ A0 A0' k c k' c' w hr hr' hc hc').mono ?_
  rintro e w' ⟨r, hR, rfl, hb⟩
  have hz := offR_ok h h' hm hR
  exact ⟨⟨r.1.1, r.1.2, by rw [hz]⟩, hb⟩

set_option maxHeartbeats 4000000 in
set_option maxRecDepth 100000 in
theorem turned9_main (n m : Nat) (w : World) (hmv : moveB (n : Int) (m : Int) = true) (h20 : n ≤ 20) :
    Calls Try.prog 8 #[.int .i64 n, .int .i64 m] w fun e w' => e = .returned (.bool true) ∧ Below w.heap.size w w' := by
  have hmv' := hmv
  unfold moveB at hmv'
  simp only [Bool.and_eq_true, decide_eq_true_eq] at hmv'
  obtain ⟨⟨hn5, _, hm2, hmn⟩, _⟩ := hmv'
  obtain ⟨k1, k2, k3, k4, k5, k6⟩ := inv_spec h20 hmv
  generalize invK n m = k at *
  have hnm : ((n : Int) - (m : Int)) = ((n - m : Nat) : Int) := by omega
  rw [hnm] at k5
  have p1 := mem_moves hmv
  have p2 := mem_moves k4
  have p3 := mem_moves k5
  have hc0 := countersG_ok (n := n) (by omega) (by omega)
  have hcl := movesB_le (n : Int) n
  rw [hc0] at p1 p2 p3
  simp only at p1 p2 p3
  have HC := Lib.hid (fun W => counters_any (n : Int) W)
  rw [hc0] at HC
  generalize movesB (n : Int) n = cs at *
  have HS1 := Lib.hid (fun W => satin_any (n : Int) (m : Int) W)
  rw [satinMG_yes hmv] at HS1
  have HS2 := Lib.hid (fun W => satin_any (n : Int) (k : Int) W)
  rw [satinMG_yes k4] at HS2
  have HS3 : Hid (∀ W X, X = ((n - m : Nat) : Int) → Calls Try.prog 18 #[.int .i64 n, .int .i64 X] W (RetG (⟨n, n, satinL n (n - m) n⟩, 0) W)) := Lib.hid (fun W X hX => by rw [hX, ← satinMG_yes k5]; exact satin_any _ _ W)
  have HT := Lib.hid (fun A n' c' W h => turn_any ⟨n, n, satinL n m n⟩ A n' c' W h)
  rw [sat_turn (by omega) (by omega) (show m * k % n = 1 % n by rw [Nat.mod_eq_of_lt (a := 1) (by omega)]; exact k3)] at HT
  have HM := Lib.hid (fun A n' c' W h => mirror_any ⟨n, n, satinL n m n⟩ 0 A n' c' W h)
  rw [sat_mir (by omega) (by omega)] at HM
  have g2 := chk_square (n := n) (by omega) (by omega) (satinL_length n k n)
  have g3 := chk_square (n := n) (by omega) (by omega) (satinL_length n (n - m) n)
  have gm := chk_square (n := n) (by omega) (by omega) (mirL_length n m)
  have HO1 := Lib.hid (fun A0 A0' q c q' c' W h h' hc hc' => off_ok n (satinL n k n) (satinL n k n) 0 0 g2 g2 self_meets A0 A0' q c q' c' W h h' hc hc')
  have HO2 := Lib.hid (fun A0 A0' q c q' c' W h h' hc hc' => off_ok n (mirL n m) (satinL n (n - m) n) 1 0 gm g3 (mir_meets (by omega) (by omega)) A0 A0' q c q' c' W h h' hc hc')
  have l1 := satinL_length n m n
  have l2 := satinL_length n k n
  have l3 := satinL_length n (n - m) n
  have lm := mirL_length n m
  generalize satinL n m n = L1 at *
  generalize satinL n k n = L2 at *
  generalize satinL n (n - m) n = L3 at *
  generalize mirL n m = LM at *
  have HSA := Lib.hid (fun A A2 q c q2 c2 W h h2 hq => rsame_any ⟨n, n, L2⟩ ⟨n, n, L2⟩ A A2 q c q2 c2 W h h2 hq)
  rw [sameG_self] at HSA
  have hN : n * n ≤ 400 := Nat.le_trans (Nat.mul_le_mul h20 h20) (by decide)
  have HK3 := Lib.hid k3
  have HK6 := Lib.hid k6
  simp only at HS1 HS2 HS3 HT HM HO1 HO2 HC
  have hnm2 : IntKind.i64.wrap ((n : Int) - (m : Int)) = ((n - m : Nat) : Int) := by rw [IntWalk.i64_in _ (by omega)]; exact hnm
  have hmn2 : n - m ≤ 20 := by omega
  generalize n * n = N at *
  generalize hD : n - m = d at *
  clear hD k3 k6 g2 g3 gm hc0 hmv k4 k5
  have S0 := St.start w
  go_enter Try.func8, Try.ntmps8
  go_wp2_with fail
  refine (HS1.out _).mono ?_
  rintro e w1 ⟨A1, n1, cc1, rfl, hown1, hb1⟩
  simp only at hown1 ⊢
  obtain rfl : n1 = N := by have := hown1.1; simp at this; omega
  have hcc1 := own_le hown1
  have S1 := ((S0.keep hb1).addRd (rd_of_own hown1)).box #[.int .i64 n, .int .i64 n, .slice A1 n1 cc1] 24
  simp only [List.nil_append, List.cons_append] at S1
  clear S0 hown1
  go_wp2_with fail
  have HS := Lib.hid S1
  obtain ⟨WW, hWW⟩ : ∃ WW, w1.alloc (.cells #[.int .i64 n, .int .i64 n, .slice A1 n1 cc1] 24) = WW := ⟨_, rfl⟩
  rw [hWW] at HS ⊢
  clear S1 hWW
  go_loopw [7] (fun i wr => ∃ j : Nat, 1 ≤ j ∧ j ≤ k ∧ i = .int .i64 j ∧ Below WW.heap.size WW wr) (fun i _ => k - (intOf i).toNat)
  case atStart => exact ⟨1, Nat.le_refl _, k1, rfl, Below.refl _ _⟩
  case round =>
    obtain ⟨j, hj1, hj, rfl, hB⟩ := hrel
    have hp0 : m * j ≤ 400 := Nat.le_trans (Nat.mul_le_mul (show m ≤ 20 by omega) (show j ≤ 20 by omega)) (by decide)
    have e1 : (m : Int) * (j : Int) = ((m * j : Nat) : Int) := (Int.natCast_mul m j).symm
    have t1 : ((m * j : Nat) : Int).tmod (n : Int) = ((m * j % n : Nat) : Int) := by rw [Int.tmod_eq_emod_of_nonneg (by omega)]; exact (Int.natCast_emod _ _).symm
    have t2 : ((m * j : Nat) : Int) % (n : Int) = ((m * j % n : Nat) : Int) := (Int.natCast_emod _ _).symm
    have hw1 : IntKind.i64.wrap ((m * j : Nat) : Int) = ((m * j : Nat) : Int) := IntWalk.i64_in _ (by omega)
    have hn0 : ¬ (n : Int) = 0 := by omega
    have hn1 : ¬ n = 0 := by omega
    have hal : m * j % n < n := Nat.mod_lt _ (by omega)
    by_cases hlt : j < k
    · have hne : ((m * j % n : Nat) : Int) ≠ 1 := by have := HK6.out j hj1 hlt; omega
      have hneb : (((m * j % n : Nat) : Int) != 1) = true := by simpa using hne
      clear hne
      generalize m * j % n = r at *
      generalize m * j = p at *
      go_wp2_with fail
      go_roundw
      case rel => exact ⟨j + 1, by omega, by omega, by go_num, hB⟩
      case measure => simp [intOf]; omega
    · have hjk : j = k := by omega
      subst hjk
      have heq : ((m * j % n : Nat) : Int) = 1 := by have := HK3.out; omega
      rw [heq] at t1 t2
      clear heq hal
      generalize m * j = p at *
      have S := HS.out.keep hB
      obtain ⟨d0, d1, d2⟩ := (S.blk 1 rfl).cell3
      go_wp2_with fail
      refine (HT.out _ _ _ _ (S.rd 0 rfl)).mono ?_
      rintro e w2 ⟨A2, n2, cc2, rfl, hown2, hb2⟩
      simp only at hown2 ⊢
      obtain rfl : n2 = n1 := by have := hown2.1; simp at this; omega
      have hcc2 := own_le hown2
      have S2 := ((S.keep hb2).addRd (rd_of_own hown2)).box #[.int .i64 n, .int .i64 n, .slice A2 n2 cc2] 24
      simp only [List.nil_append, List.cons_append] at S2
      clear S hown2
      clear d0 d1 d2
      obtain ⟨d0, d1, d2⟩ := (S2.blk 1 rfl).cell3
      go_wp2_with fail
      refine (HM.out _ _ _ _ (S2.rd 0 rfl)).mono ?_
      rintro e w3 ⟨A3, n3, cc3, rfl, hown3, hb3⟩
      simp only at hown3 ⊢
      obtain rfl : n3 = n2 := by have := hown3.1; simp at this; omega
      have hcc3 := own_le hown3
      have S3 := ((S2.keep hb3).addRd (rd_of_own hown3)).box #[.int .i64 n, .int .i64 n, .slice A3 n3 cc3] 24
      simp only [List.nil_append, List.cons_append] at S3
      clear S2 hown3
      clear d0 d1 d2
      go_wp2_with fail
      refine (HS2.out _).mono ?_
      rintro e w4 ⟨A4, n4, cc4, rfl, hown4, hb4⟩
      simp only at hown4 ⊢
      obtain rfl : n4 = n3 := by have := hown4.1; simp at this; omega
      have hcc4 := own_le hown4
      have S4 := ((S3.keep hb4).addRd (rd_of_own hown4)).box #[.int .i64 n, .int .i64 n, .slice A4 n4 cc4] 24
      simp only [List.nil_append, List.cons_append] at S4
      clear S3 hown4
      go_wp2_with fail
      refine (HS3.out _ _ rfl).mono ?_
      rintro e w5 ⟨A5, n5, cc5, rfl, hown5, hb5⟩
      simp only at hown5 ⊢
      obtain rfl : n5 = n4 := by have := hown5.1; simp at this; omega
      have hcc5 := own_le hown5
      have S5 := ((S4.keep hb5).addRd (rd_of_own hown5)).box #[.int .i64 n, .int .i64 n, .slice A5 n5 cc5] 24
      simp only [List.nil_append, List.cons_append] at S5
      clear S4 hown5
      obtain ⟨d0, d1, d2⟩ := (S5.blk 3 rfl).cell3
      obtain ⟨e0, e1', e2⟩ := (S5.blk 7 rfl).cell3
      go_wp2_with fail
      refine (HO1.out _ _ _ _ _ _ _ (S5.rd 2 rfl) (S5.rd 6 rfl) hcc2 hcc4).mono ?_
      rintro e w6 ⟨⟨px, py, rfl⟩, hb6⟩
      have S6 := (S5.keep hb6).box #[.int .i64 px, .int .i64 py] 67
      simp only [List.nil_append, List.cons_append] at S6
      clear S5 d0 d1 d2 e0 e1' e2
      obtain ⟨d0, d1, d2⟩ := (S6.blk 5 rfl).cell3
      obtain ⟨e0, e1', e2⟩ := (S6.blk 9 rfl).cell3
      go_wp2_with fail
      refine (HO2.out _ _ _ _ _ _ _ (S6.rd 4 rfl) (S6.rd 8 rfl) hcc3 hcc5).mono ?_
      rintro e w7 ⟨⟨qx, qy, rfl⟩, hb7⟩
      have S7 := (S6.keep hb7).box #[.int .i64 qx, .int .i64 qy] 67
      simp only [List.nil_append, List.cons_append] at S7
      clear S6 d0 d1 d2 e0 e1' e2
      go_wp2_with fail
      refine (HC.out _).mono ?_
      rintro e w8 ⟨A8, n8, cc8, rfl, hown8, hb8⟩
      simp only at hown8 ⊢
      have hn8 : n8 ≤ 1048576 := by have h1 := hown8.1; simp at h1; omega
      have S8 := (S7.keep hb8).addRd (rd_of_own hown8)
      simp only [List.nil_append, List.cons_append] at S8
      clear S7 hown8
      go_wp2_with fail
      have HP := Lib.hid (fun X W h (hx : X ∈ cs) => place_any cs X A8 n8 cc8 W h hn8 hx)
      refine (HP.out _ _ (S8.rd 12 rfl) p1).mono ?_
      rintro e w11 ⟨rfl, h11⟩
      have h12 := h11.symm
      subst h12
      clear h11
      go_wp2_with fail
      refine (HP.out _ _ (S8.rd 12 rfl) p2).mono ?_
      rintro e w11 ⟨rfl, h11⟩
      have h12 := h11.symm
      subst h12
      clear h11
      go_wp2_with fail
      refine (HP.out _ _ (S8.rd 12 rfl) p3).mono ?_
      rintro e w11 ⟨rfl, h11⟩
      have h12 := h11.symm
      subst h12
      clear h11
      obtain ⟨d0, d1, d2⟩ := (S8.blk 3 rfl).cell3
      obtain ⟨e0, e1', e2⟩ := (S8.blk 7 rfl).cell3
      go_wp2_with fail
      refine (HSA.out _ _ _ _ _ _ _ (S8.rd 2 rfl) (S8.rd 6 rfl) (by omega)).mono ?_
      rintro e w12 ⟨rfl, hb12⟩
      have S9 := S8.keep hb12
      go_wp2_with fail
      refine (alive_any _).mono ?_
      rintro e w13 ⟨rfl, hb13⟩
      have SE := (S9.keep hb13).below
      go_wp2_with fail
      go_ret
      exact ⟨rfl, SE⟩

set_option maxHeartbeats 1000000 in
set_option maxRecDepth 100000 in
theorem turned9_walk (n m : Int) (w : World) :
    Calls Try.prog 8 #[.int .i64 n, .int .i64 m] w fun e w' => e = .returned (.bool true) ∧ Below w.heap.size w w' := by
  have S0 := St.start w
  cases hmv : moveB n m with
  | false =>
    have HS1 := Lib.hid (fun W => satin_any n m W)
    rw [satinMG_no hmv] at HS1
    clear hmv
    go_enter Try.func8, Try.ntmps8
    go_wp2_with fail
    refine (HS1.out _).mono ?_
    rintro e w1 ⟨A1, n1, cc1, rfl, hown1, hb1⟩
    have S1 := (S0.keep hb1).box #[.int .i64 Gd.zero.w, .int .i64 Gd.zero.h, .slice A1 n1 cc1] 24
    go_wp2_with fail
    refine (alive_any _).mono ?_
    rintro e w2 ⟨rfl, hb2⟩
    go_wp2_with fail
    go_ret
    exact ⟨rfl, (S1.keep hb2).below⟩
  | true =>
    obtain ⟨n, m, rfl, rfl, hn5, hn64, hm64⟩ := moveB_range hmv
    by_cases h20 : n ≤ 20
    · exact turned9_main n m w hmv h20
    · have HS1 := Lib.hid (fun W => satin_any (n : Int) (m : Int) W)
      rw [satinMG_yes hmv] at HS1
      clear hmv
      generalize satinL n m n = L1 at *
      go_enter Try.func8, Try.ntmps8
      go_wp2_with fail
      refine (HS1.out _).mono ?_
      rintro e w1 ⟨A1, n1, cc1, rfl, hown1, hb1⟩
      have S1 := (S0.keep hb1).box #[.int .i64 n, .int .i64 n, .slice A1 n1 cc1] 24
      go_wp2_with fail
      refine (alive_any _).mono ?_
      rintro e w2 ⟨rfl, hb2⟩
      go_wp2_with fail
      go_ret
      exact ⟨rfl, (S1.keep hb2).below⟩
end Go.Proofs.Ytbgekiifffnalaa
