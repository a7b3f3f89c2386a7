/- The law SatinNone, walked: it answers true and turns nothing that was there, for any grid. -/
import Derived.Test.YtbgekiifffnalaaAlive9
import Derived.Test.YtbgekiifffnalaaSat9
import Derived.Test.YtbgekiifffnalaaLAsks9
namespace Go.Proofs.Ytbgekiifffnalaa
open Go.RowKit

theorem at6_row0 (a b k c : Nat) (A : Option Addr) (bs : List Bool) (w : World) (ha1 : 1 ≤ a) (hb1 : 1 ≤ b) (ha : a ≤ 64) (hb : b ≤ 64) (hk : k < a) (hr : Rd w A (b * a) (bs.map Value.bool)) :
    Calls Try.prog 32 #[.agg #[.int .i64 a, .int .i64 b, .slice A (b * a) c], .int .i64 k, .int .i64 0] w fun e w' => e = .returned (.bool (bs.getD k false)) ∧ Below w.heap.size w w' := by
  have h := plane_any a b c A bs (k : Int) 0 w ha1 hb1 ha hb hr
  have e : pl a b bs (k : Int) 0 = bs.getD k false := by
    unfold pl
    rw [Int.emod_eq_of_lt (a := (k : Int)) (by omega) (by omega)]
    simp
  rw [e] at h
  exact h

set_option maxHeartbeats 4000000 in
set_option maxRecDepth 100000 in
theorem none9_a (a b A B C : Nat) (bs : List Bool) (A0 : Option Addr) (n c : Nat) (w : World) (hr : Rd w A0 n (bs.map Value.bool)) (hc : n ≤ c) (h400 : n ≤ 400)
    (hk : chkG ⟨a, b, bs⟩ = 0) (ha1 : 1 ≤ a) (ha : a ≤ 64) (hb1 : 1 ≤ b) (hb : b ≤ 64) (hl : bs.length = b * a) (hA1 : 1 ≤ A) (hA2 : A ≤ a) (ho : ofG ⟨a, b, bs⟩ = (((A : Int), (B : Int), (C : Int)), 0)) (hC1' : ¬ C = 1) :
    Calls Try.prog 7 #[.agg #[.int .i64 a, .int .i64 b, .slice A0 n c]] w fun e w' => e = .returned (.bool true) ∧ Below w.heap.size w w' := by
  have hn : n = b * a := by have := hr.len; simp at this; omega
  have hcb : chk (a : Int) (b : Int) n = 0 := by unfold chkG at hk; simp only at hk; rw [hl, ← hn] at hk; exact hk
  have S0 := ((St.start w).addRd hr).box #[.int .i64 a, .int .i64 b, .slice A0 n c] 24
  simp only [List.nil_append, List.cons_append] at S0
  have HO := Lib.hid (fun W h => of_any ⟨a, b, bs⟩ A0 n c W h hc)
  have HV := Lib.hid (fun W h => moves_any ⟨a, b, bs⟩ A0 n c W h hc)
  have HS := Lib.hid (fun W h => sat_any ⟨a, b, bs⟩ A0 n c W h hc)
  unfold SatRet at HS
  rw [ho] at HO
  have hC4 : ((C : Int) == 1) = false := by simp; omega
  rw [movesG_no ho hC1'] at HV
  rw [satG_no ho (.inl hC1')] at HS
  clear hC1'
  have HAT := Lib.hid (fun k W (hk : k < a) h => at6_row0 a b k c A0 bs W ha1 hb1 ha hb hk h)
  rw [← hn] at HAT
  have HFS := Lib.hid (frow_succ bs)
  have HU64 := Lib.hid (fun k => Nat.le_trans (ups_le (frow bs k)) (show _ ≤ k by simp [frow]))
  simp only at HO HV HS
  have hA64 : A ≤ 64 := by omega
  have hd : decide (400 < n) = false := by simp; omega
  have hcb2 : (chk (a : Int) (b : Int) n != 0) = false := by rw [hcb]; rfl
  have HN := Lib.hid hn
  clear hk hl ho hn hr
  obtain ⟨c0, c1, c2⟩ := (S0.blk 1 rfl).cell3
  go_enter Try.func7, Try.ntmps7
  go_wp2_with fail
  refine (great9_any _ _ _ _ _ _).mono ?_
  rintro e w1 ⟨rfl, hb1'⟩
  have S1 := S0.keep hb1'
  clear c0 c1 c2
  obtain ⟨c0, c1, c2⟩ := (S1.blk 1 rfl).cell3
  go_wp2_with fail
  refine (rcheck_any _ _ _ _ _ _).mono ?_
  rintro e w2 ⟨rfl, hb2'⟩
  have S2 := S1.keep hb2'
  clear c0 c1 c2 S1
  obtain ⟨c0, c1, c2⟩ := (S2.blk 1 rfl).cell3
  go_wp2_with fail
  refine (HO.out _ (S2.rd 0 rfl)).mono ?_
  rintro e w3 ⟨rfl, hb3'⟩
  have S3 := (S2.keep hb3').box #[.int .i64 A, .int .i64 B, .int .i64 C] 57
  simp only [List.nil_append, List.cons_append] at S3
  clear c0 c1 c2 S2
  obtain ⟨c0, c1, c2⟩ := (S3.blk 1 rfl).cell3
  go_wp2_with fail
  refine (HV.out _ (S3.rd 0 rfl)).mono ?_
  rintro e w4 ⟨A4, n4, cc4, rfl, hown4, hb4'⟩
  obtain rfl : n4 = 0 := by have := hown4.1; simp at this; omega
  have S4 := (S3.keep hb4').addRd (rd_of_own hown4)
  simp only [List.nil_append, List.cons_append] at S4
  clear c0 c1 c2 S3
  obtain ⟨c0, c1, c2⟩ := (S4.blk 1 rfl).cell3
  go_wp2_with fail
  refine (HS.out _ (S4.rd 0 rfl)).mono ?_
  rintro e w5 ⟨rfl, hb5'⟩
  have S5 := S4.keep hb5'
  clear c0 c1 c2 S4
  obtain ⟨d0, d1, d2⟩ := (S5.blk 2 rfl).cell3
  go_wp2_with fail
  go_quiet (fail)
  have S6 := S5.drewN nq
  clear d0 d1 d2 S5
  obtain ⟨d0, d1, d2⟩ := (S6.blk 2 rfl).cell3
  go_wp2_with fail
  go_loopw [12, 11] (fun i u wr => ∃ k : Nat, k ≤ A ∧ i = .int .i64 k ∧ u = .int .i64 (ups (frow bs k) : Nat) ∧ Below (w5.drewN nq).heap.size (w5.drewN nq) wr) (fun i _ _ => A - (intOf i).toNat)
  case atStart => exact ⟨0, Nat.zero_le _, rfl, rfl, Below.refl _ _⟩
  case round =>
    obtain ⟨k, hk, rfl, rfl, hbel⟩ := hrel
    have SR := S6.keep hbel
    clear S6 d0 d1 d2
    obtain ⟨c0, c1, c2⟩ := (SR.blk 1 rfl).cell3
    obtain ⟨d0, d1, d2⟩ := (SR.blk 2 rfl).cell3
    have huk := HU64.out k
    by_cases hlt : k < A
    · have HUP : Hid (ups (frow bs (k + 1)) = ups (frow bs k) + (if bs.getD k false then 1 else 0)) := Lib.hid (by rw [HFS.out, ups_snoc])
      have HATk := Lib.hid (fun W h => HAT.out k W (by omega) h)
      generalize ups (frow bs k) = u at *
      cases hp : bs.getD k false with
      | true =>
        rw [hp] at HATk HUP
        clear hp
        go_wp2_with fail
        refine (HATk.out _ (SR.rd 0 rfl)).mono ?_
        rintro e w6 ⟨rfl, hb6⟩
        go_wp2_with fail
        go_roundw
        case rel => exact ⟨k + 1, by omega, by go_num, by rw [HUP.out]; go_num, below_then hbel hb6⟩
        case measure => simp [intOf]; omega
      | false =>
        rw [hp] at HATk HUP
        clear hp
        go_wp2_with fail
        refine (HATk.out _ (SR.rd 0 rfl)).mono ?_
        rintro e w6 ⟨rfl, hb6⟩
        go_wp2_with fail
        go_roundw
        case rel => exact ⟨k + 1, by omega, by go_num, by rw [HUP.out]; rfl, below_then hbel hb6⟩
        case measure => simp [intOf]; omega
    · have hkA : k = A := by omega
      have HKA := Lib.hid hkA
      rw [HKA.out]
      rw [HKA.out] at huk
      clear hkA hlt
      generalize ups (frow bs A) = u at *
      go_wp2_with fail
      have ST := SR
      refine (alive_any _).mono ?_
      rintro e w8 ⟨rfl, hb8⟩
      have SE := ST.keep hb8
      go_wp2_with fail
      go_ret
      exact ⟨rfl, SE.below⟩

set_option maxHeartbeats 4000000 in
set_option maxRecDepth 100000 in
theorem none9_b (a b A B C : Nat) (bs : List Bool) (A0 : Option Addr) (n c : Nat) (w : World) (hr : Rd w A0 n (bs.map Value.bool)) (hc : n ≤ c) (h400 : n ≤ 400)
    (hk : chkG ⟨a, b, bs⟩ = 0) (ha1 : 1 ≤ a) (ha : a ≤ 64) (hb1 : 1 ≤ b) (hb : b ≤ 64) (hl : bs.length = b * a) (hA1 : 1 ≤ A) (hA2 : A ≤ a) (ho : ofG ⟨a, b, bs⟩ = (((A : Int), (B : Int), (C : Int)), 0)) (hC1 : C = 1) (hm : moveB (A : Int) (B : Int) = false) :
    Calls Try.prog 7 #[.agg #[.int .i64 a, .int .i64 b, .slice A0 n c]] w fun e w' => e = .returned (.bool true) ∧ Below w.heap.size w w' := by
  have hn : n = b * a := by have := hr.len; simp at this; omega
  have hcb : chk (a : Int) (b : Int) n = 0 := by unfold chkG at hk; simp only at hk; rw [hl, ← hn] at hk; exact hk
  have S0 := ((St.start w).addRd hr).box #[.int .i64 a, .int .i64 b, .slice A0 n c] 24
  simp only [List.nil_append, List.cons_append] at S0
  have HO := Lib.hid (fun W h => of_any ⟨a, b, bs⟩ A0 n c W h hc)
  have HV := Lib.hid (fun W h => moves_any ⟨a, b, bs⟩ A0 n c W h hc)
  have HS := Lib.hid (fun W h => sat_any ⟨a, b, bs⟩ A0 n c W h hc)
  unfold SatRet at HS
  rw [ho] at HO
  have hC4 : ((C : Int) == 1) = true := by rw [hC1]; rfl
  rw [movesG_yes ho hC1] at HV
  rw [satG_no ho (.inr (.inl hm))] at HS
  clear hC1
  have HAT := Lib.hid (fun k W (hk : k < a) h => at6_row0 a b k c A0 bs W ha1 hb1 ha hb hk h)
  rw [← hn] at HAT
  have HFS := Lib.hid (frow_succ bs)
  have HU64 := Lib.hid (fun k => Nat.le_trans (ups_le (frow bs k)) (show _ ≤ k by simp [frow]))
  have HM := Lib.hid (fun W => rmove_any (A : Int) (B : Int) W)
  rw [hm] at HM
  clear hm
  simp only at HO HV HS
  have hA64 : A ≤ 64 := by omega
  have hd : decide (400 < n) = false := by simp; omega
  have hcb2 : (chk (a : Int) (b : Int) n != 0) = false := by rw [hcb]; rfl
  have HN := Lib.hid hn
  clear hk hl ho hn hr
  obtain ⟨c0, c1, c2⟩ := (S0.blk 1 rfl).cell3
  go_enter Try.func7, Try.ntmps7
  go_wp2_with fail
  refine (great9_any _ _ _ _ _ _).mono ?_
  rintro e w1 ⟨rfl, hb1'⟩
  have S1 := S0.keep hb1'
  clear c0 c1 c2
  obtain ⟨c0, c1, c2⟩ := (S1.blk 1 rfl).cell3
  go_wp2_with fail
  refine (rcheck_any _ _ _ _ _ _).mono ?_
  rintro e w2 ⟨rfl, hb2'⟩
  have S2 := S1.keep hb2'
  clear c0 c1 c2 S1
  obtain ⟨c0, c1, c2⟩ := (S2.blk 1 rfl).cell3
  go_wp2_with fail
  refine (HO.out _ (S2.rd 0 rfl)).mono ?_
  rintro e w3 ⟨rfl, hb3'⟩
  have S3 := (S2.keep hb3').box #[.int .i64 A, .int .i64 B, .int .i64 C] 57
  simp only [List.nil_append, List.cons_append] at S3
  clear c0 c1 c2 S2
  obtain ⟨c0, c1, c2⟩ := (S3.blk 1 rfl).cell3
  go_wp2_with fail
  refine (HV.out _ (S3.rd 0 rfl)).mono ?_
  rintro e w4 ⟨A4, n4, cc4, rfl, hown4, hb4'⟩
  obtain rfl : n4 = 1 := by have := hown4.1; simp at this; omega
  have S4 := (S3.keep hb4').addRd (rd_of_own hown4)
  simp only [List.nil_append, List.cons_append] at S4
  clear c0 c1 c2 S3
  obtain ⟨c0, c1, c2⟩ := (S4.blk 1 rfl).cell3
  go_wp2_with fail
  refine (HS.out _ (S4.rd 0 rfl)).mono ?_
  rintro e w5 ⟨rfl, hb5'⟩
  have S5 := S4.keep hb5'
  clear c0 c1 c2 S4
  obtain ⟨d0, d1, d2⟩ := (S5.blk 2 rfl).cell3
  obtain ⟨gm, om, rfl, _, hcm⟩ := (S5.rd 3 rfl).at_ (by omega)
  have m0 := hcm 0 (.int .i64 B) rfl
  rw [Nat.add_zero] at m0
  go_wp2_with fail
  go_quiet (fail)
  have S6 := S5.drewN nq
  clear hcm m0
  clear d0 d1 d2 S5
  obtain ⟨d0, d1, d2⟩ := (S6.blk 2 rfl).cell3
  go_wp2_with fail
  go_loopw [12, 11] (fun i u wr => ∃ k : Nat, k ≤ A ∧ i = .int .i64 k ∧ u = .int .i64 (ups (frow bs k) : Nat) ∧ Below (w5.drewN nq).heap.size (w5.drewN nq) wr) (fun i _ _ => A - (intOf i).toNat)
  case atStart => exact ⟨0, Nat.zero_le _, rfl, rfl, Below.refl _ _⟩
  case round =>
    obtain ⟨k, hk, rfl, rfl, hbel⟩ := hrel
    have SR := S6.keep hbel
    clear S6 d0 d1 d2
    obtain ⟨c0, c1, c2⟩ := (SR.blk 1 rfl).cell3
    obtain ⟨d0, d1, d2⟩ := (SR.blk 2 rfl).cell3
    have huk := HU64.out k
    by_cases hlt : k < A
    · have HUP : Hid (ups (frow bs (k + 1)) = ups (frow bs k) + (if bs.getD k false then 1 else 0)) := Lib.hid (by rw [HFS.out, ups_snoc])
      have HATk := Lib.hid (fun W h => HAT.out k W (by omega) h)
      generalize ups (frow bs k) = u at *
      cases hp : bs.getD k false with
      | true =>
        rw [hp] at HATk HUP
        clear hp
        go_wp2_with fail
        refine (HATk.out _ (SR.rd 0 rfl)).mono ?_
        rintro e w6 ⟨rfl, hb6⟩
        go_wp2_with fail
        go_roundw
        case rel => exact ⟨k + 1, by omega, by go_num, by rw [HUP.out]; go_num, below_then hbel hb6⟩
        case measure => simp [intOf]; omega
      | false =>
        rw [hp] at HATk HUP
        clear hp
        go_wp2_with fail
        refine (HATk.out _ (SR.rd 0 rfl)).mono ?_
        rintro e w6 ⟨rfl, hb6⟩
        go_wp2_with fail
        go_roundw
        case rel => exact ⟨k + 1, by omega, by go_num, by rw [HUP.out]; rfl, below_then hbel hb6⟩
        case measure => simp [intOf]; omega
    · have hkA : k = A := by omega
      have HKA := Lib.hid hkA
      rw [HKA.out]
      rw [HKA.out] at huk
      clear hkA hlt
      generalize ups (frow bs A) = u at *
      go_wp2_with fail
      refine (HM.out _).mono ?_
      rintro e w7 ⟨rfl, hb7⟩
      have ST := SR.keep hb7
      clear c0 c1 c2 d0 d1 d2
      obtain ⟨d0, d1, d2⟩ := (ST.blk 2 rfl).cell3
      go_wp2_with fail
      refine (alive_any _).mono ?_
      rintro e w8 ⟨rfl, hb8⟩
      have SE := ST.keep hb8
      go_wp2_with fail
      go_ret
      exact ⟨rfl, SE.below⟩

set_option maxHeartbeats 4000000 in
set_option maxRecDepth 100000 in
theorem none9_c (a b A B C : Nat) (bs : List Bool) (A0 : Option Addr) (n c : Nat) (w : World) (hr : Rd w A0 n (bs.map Value.bool)) (hc : n ≤ c) (h400 : n ≤ 400)
    (hk : chkG ⟨a, b, bs⟩ = 0) (ha1 : 1 ≤ a) (ha : a ≤ 64) (hb1 : 1 ≤ b) (hb : b ≤ 64) (hl : bs.length = b * a) (hA1 : 1 ≤ A) (hA2 : A ≤ a) (ho : ofG ⟨a, b, bs⟩ = (((A : Int), (B : Int), (C : Int)), 0)) (hC1 : C = 1) (hm : moveB (A : Int) (B : Int) = true) (hu1 : ups (frow bs A) = 1) :
    Calls Try.prog 7 #[.agg #[.int .i64 a, .int .i64 b, .slice A0 n c]] w fun e w' => e = .returned (.bool true) ∧ Below w.heap.size w w' := by
  have hn : n = b * a := by have := hr.len; simp at this; omega
  have hcb : chk (a : Int) (b : Int) n = 0 := by unfold chkG at hk; simp only at hk; rw [hl, ← hn] at hk; exact hk
  have S0 := ((St.start w).addRd hr).box #[.int .i64 a, .int .i64 b, .slice A0 n c] 24
  simp only [List.nil_append, List.cons_append] at S0
  have HO := Lib.hid (fun W h => of_any ⟨a, b, bs⟩ A0 n c W h hc)
  have HV := Lib.hid (fun W h => moves_any ⟨a, b, bs⟩ A0 n c W h hc)
  have HS := Lib.hid (fun W h => sat_any ⟨a, b, bs⟩ A0 n c W h hc)
  unfold SatRet at HS
  rw [ho] at HO
  have hC4 : ((C : Int) == 1) = true := by rw [hC1]; rfl
  rw [movesG_yes ho hC1] at HV
  rw [satG_yes (u := true) ho hC1 hm (.inl hu1) (decide_eq_true hu1)] at HS
  have HU1 := Lib.hid hu1
  clear hC1 hu1
  have HAT := Lib.hid (fun k W (hk : k < a) h => at6_row0 a b k c A0 bs W ha1 hb1 ha hb hk h)
  rw [← hn] at HAT
  have HFS := Lib.hid (frow_succ bs)
  have HU64 := Lib.hid (fun k => Nat.le_trans (ups_le (frow bs k)) (show _ ≤ k by simp [frow]))
  have HM := Lib.hid (fun W => rmove_any (A : Int) (B : Int) W)
  rw [hm] at HM
  clear hm
  simp only at HO HV HS
  have hA64 : A ≤ 64 := by omega
  have hd : decide (400 < n) = false := by simp; omega
  have hcb2 : (chk (a : Int) (b : Int) n != 0) = false := by rw [hcb]; rfl
  have HN := Lib.hid hn
  clear hk hl ho hn hr
  obtain ⟨c0, c1, c2⟩ := (S0.blk 1 rfl).cell3
  go_enter Try.func7, Try.ntmps7
  go_wp2_with fail
  refine (great9_any _ _ _ _ _ _).mono ?_
  rintro e w1 ⟨rfl, hb1'⟩
  have S1 := S0.keep hb1'
  clear c0 c1 c2
  obtain ⟨c0, c1, c2⟩ := (S1.blk 1 rfl).cell3
  go_wp2_with fail
  refine (rcheck_any _ _ _ _ _ _).mono ?_
  rintro e w2 ⟨rfl, hb2'⟩
  have S2 := S1.keep hb2'
  clear c0 c1 c2 S1
  obtain ⟨c0, c1, c2⟩ := (S2.blk 1 rfl).cell3
  go_wp2_with fail
  refine (HO.out _ (S2.rd 0 rfl)).mono ?_
  rintro e w3 ⟨rfl, hb3'⟩
  have S3 := (S2.keep hb3').box #[.int .i64 A, .int .i64 B, .int .i64 C] 57
  simp only [List.nil_append, List.cons_append] at S3
  clear c0 c1 c2 S2
  obtain ⟨c0, c1, c2⟩ := (S3.blk 1 rfl).cell3
  go_wp2_with fail
  refine (HV.out _ (S3.rd 0 rfl)).mono ?_
  rintro e w4 ⟨A4, n4, cc4, rfl, hown4, hb4'⟩
  obtain rfl : n4 = 1 := by have := hown4.1; simp at this; omega
  have S4 := (S3.keep hb4').addRd (rd_of_own hown4)
  simp only [List.nil_append, List.cons_append] at S4
  clear c0 c1 c2 S3
  obtain ⟨c0, c1, c2⟩ := (S4.blk 1 rfl).cell3
  go_wp2_with fail
  refine (HS.out _ (S4.rd 0 rfl)).mono ?_
  rintro e w5 ⟨rfl, hb5'⟩
  have S5 := S4.keep hb5'
  clear c0 c1 c2 S4
  obtain ⟨d0, d1, d2⟩ := (S5.blk 2 rfl).cell3
  obtain ⟨gm, om, rfl, _, hcm⟩ := (S5.rd 3 rfl).at_ (by omega)
  have m0 := hcm 0 (.int .i64 B) rfl
  rw [Nat.add_zero] at m0
  go_wp2_with fail
  go_quiet (fail)
  have S6 := S5.drewN nq
  clear hcm m0
  clear d0 d1 d2 S5
  obtain ⟨d0, d1, d2⟩ := (S6.blk 2 rfl).cell3
  go_wp2_with fail
  go_loopw [12, 11] (fun i u wr => ∃ k : Nat, k ≤ A ∧ i = .int .i64 k ∧ u = .int .i64 (ups (frow bs k) : Nat) ∧ Below (w5.drewN nq).heap.size (w5.drewN nq) wr) (fun i _ _ => A - (intOf i).toNat)
  case atStart => exact ⟨0, Nat.zero_le _, rfl, rfl, Below.refl _ _⟩
  case round =>
    obtain ⟨k, hk, rfl, rfl, hbel⟩ := hrel
    have SR := S6.keep hbel
    clear S6 d0 d1 d2
    obtain ⟨c0, c1, c2⟩ := (SR.blk 1 rfl).cell3
    obtain ⟨d0, d1, d2⟩ := (SR.blk 2 rfl).cell3
    have huk := HU64.out k
    by_cases hlt : k < A
    · have HUP : Hid (ups (frow bs (k + 1)) = ups (frow bs k) + (if bs.getD k false then 1 else 0)) := Lib.hid (by rw [HFS.out, ups_snoc])
      have HATk := Lib.hid (fun W h => HAT.out k W (by omega) h)
      generalize ups (frow bs k) = u at *
      cases hp : bs.getD k false with
      | true =>
        rw [hp] at HATk HUP
        clear hp
        go_wp2_with fail
        refine (HATk.out _ (SR.rd 0 rfl)).mono ?_
        rintro e w6 ⟨rfl, hb6⟩
        go_wp2_with fail
        go_roundw
        case rel => exact ⟨k + 1, by omega, by go_num, by rw [HUP.out]; go_num, below_then hbel hb6⟩
        case measure => simp [intOf]; omega
      | false =>
        rw [hp] at HATk HUP
        clear hp
        go_wp2_with fail
        refine (HATk.out _ (SR.rd 0 rfl)).mono ?_
        rintro e w6 ⟨rfl, hb6⟩
        go_wp2_with fail
        go_roundw
        case rel => exact ⟨k + 1, by omega, by go_num, by rw [HUP.out]; rfl, below_then hbel hb6⟩
        case measure => simp [intOf]; omega
    · have hkA : k = A := by omega
      have HKA := Lib.hid hkA
      rw [HKA.out]
      rw [HKA.out] at huk
      clear hkA hlt
      have hu4 : ((ups (frow bs A) : Nat) : Int) = 1 := by have := HU1.out; omega
      rw [hu4]
      clear huk hu4
      go_wp2_with fail
      refine (HM.out _).mono ?_
      rintro e w7 ⟨rfl, hb7⟩
      have ST := SR.keep hb7
      clear c0 c1 c2 d0 d1 d2
      obtain ⟨d0, d1, d2⟩ := (ST.blk 2 rfl).cell3
      go_wp2_with fail
      refine (alive_any _).mono ?_
      rintro e w8 ⟨rfl, hb8⟩
      have SE := ST.keep hb8
      go_wp2_with fail
      go_ret
      exact ⟨rfl, SE.below⟩

set_option maxHeartbeats 4000000 in
set_option maxRecDepth 100000 in
theorem none9_d (a b A B C : Nat) (bs : List Bool) (A0 : Option Addr) (n c : Nat) (w : World) (hr : Rd w A0 n (bs.map Value.bool)) (hc : n ≤ c) (h400 : n ≤ 400)
    (hk : chkG ⟨a, b, bs⟩ = 0) (ha1 : 1 ≤ a) (ha : a ≤ 64) (hb1 : 1 ≤ b) (hb : b ≤ 64) (hl : bs.length = b * a) (hA1 : 1 ≤ A) (hA2 : A ≤ a) (ho : ofG ⟨a, b, bs⟩ = (((A : Int), (B : Int), (C : Int)), 0)) (hC1 : C = 1) (hm : moveB (A : Int) (B : Int) = true) (hu1 : ups (frow bs A) ≠ 1) (hu2 : ((ups (frow bs A) : Nat) : Int) = (A : Int) - 1) :
    Calls Try.prog 7 #[.agg #[.int .i64 a, .int .i64 b, .slice A0 n c]] w fun e w' => e = .returned (.bool true) ∧ Below w.heap.size w w' := by
  have hn : n = b * a := by have := hr.len; simp at this; omega
  have hcb : chk (a : Int) (b : Int) n = 0 := by unfold chkG at hk; simp only at hk; rw [hl, ← hn] at hk; exact hk
  have S0 := ((St.start w).addRd hr).box #[.int .i64 a, .int .i64 b, .slice A0 n c] 24
  simp only [List.nil_append, List.cons_append] at S0
  have HO := Lib.hid (fun W h => of_any ⟨a, b, bs⟩ A0 n c W h hc)
  have HV := Lib.hid (fun W h => moves_any ⟨a, b, bs⟩ A0 n c W h hc)
  have HS := Lib.hid (fun W h => sat_any ⟨a, b, bs⟩ A0 n c W h hc)
  unfold SatRet at HS
  rw [ho] at HO
  have hC4 : ((C : Int) == 1) = true := by rw [hC1]; rfl
  rw [movesG_yes ho hC1] at HV
  rw [satG_yes (u := false) ho hC1 hm (.inr hu2) (decide_eq_false hu1)] at HS
  have HU1 := Lib.hid hu1
  have HU2 := Lib.hid hu2
  clear hC1 hu1 hu2
  have HAT := Lib.hid (fun k W (hk : k < a) h => at6_row0 a b k c A0 bs W ha1 hb1 ha hb hk h)
  rw [← hn] at HAT
  have HFS := Lib.hid (frow_succ bs)
  have HU64 := Lib.hid (fun k => Nat.le_trans (ups_le (frow bs k)) (show _ ≤ k by simp [frow]))
  have HM := Lib.hid (fun W => rmove_any (A : Int) (B : Int) W)
  rw [hm] at HM
  clear hm
  simp only at HO HV HS
  have hA64 : A ≤ 64 := by omega
  have hd : decide (400 < n) = false := by simp; omega
  have hcb2 : (chk (a : Int) (b : Int) n != 0) = false := by rw [hcb]; rfl
  have HN := Lib.hid hn
  clear hk hl ho hn hr
  obtain ⟨c0, c1, c2⟩ := (S0.blk 1 rfl).cell3
  go_enter Try.func7, Try.ntmps7
  go_wp2_with fail
  refine (great9_any _ _ _ _ _ _).mono ?_
  rintro e w1 ⟨rfl, hb1'⟩
  have S1 := S0.keep hb1'
  clear c0 c1 c2
  obtain ⟨c0, c1, c2⟩ := (S1.blk 1 rfl).cell3
  go_wp2_with fail
  refine (rcheck_any _ _ _ _ _ _).mono ?_
  rintro e w2 ⟨rfl, hb2'⟩
  have S2 := S1.keep hb2'
  clear c0 c1 c2 S1
  obtain ⟨c0, c1, c2⟩ := (S2.blk 1 rfl).cell3
  go_wp2_with fail
  refine (HO.out _ (S2.rd 0 rfl)).mono ?_
  rintro e w3 ⟨rfl, hb3'⟩
  have S3 := (S2.keep hb3').box #[.int .i64 A, .int .i64 B, .int .i64 C] 57
  simp only [List.nil_append, List.cons_append] at S3
  clear c0 c1 c2 S2
  obtain ⟨c0, c1, c2⟩ := (S3.blk 1 rfl).cell3
  go_wp2_with fail
  refine (HV.out _ (S3.rd 0 rfl)).mono ?_
  rintro e w4 ⟨A4, n4, cc4, rfl, hown4, hb4'⟩
  obtain rfl : n4 = 1 := by have := hown4.1; simp at this; omega
  have S4 := (S3.keep hb4').addRd (rd_of_own hown4)
  simp only [List.nil_append, List.cons_append] at S4
  clear c0 c1 c2 S3
  obtain ⟨c0, c1, c2⟩ := (S4.blk 1 rfl).cell3
  go_wp2_with fail
  refine (HS.out _ (S4.rd 0 rfl)).mono ?_
  rintro e w5 ⟨rfl, hb5'⟩
  have S5 := S4.keep hb5'
  clear c0 c1 c2 S4
  obtain ⟨d0, d1, d2⟩ := (S5.blk 2 rfl).cell3
  obtain ⟨gm, om, rfl, _, hcm⟩ := (S5.rd 3 rfl).at_ (by omega)
  have m0 := hcm 0 (.int .i64 B) rfl
  rw [Nat.add_zero] at m0
  go_wp2_with fail
  go_quiet (fail)
  have S6 := S5.drewN nq
  clear hcm m0
  clear d0 d1 d2 S5
  obtain ⟨d0, d1, d2⟩ := (S6.blk 2 rfl).cell3
  go_wp2_with fail
  go_loopw [12, 11] (fun i u wr => ∃ k : Nat, k ≤ A ∧ i = .int .i64 k ∧ u = .int .i64 (ups (frow bs k) : Nat) ∧ Below (w5.drewN nq).heap.size (w5.drewN nq) wr) (fun i _ _ => A - (intOf i).toNat)
  case atStart => exact ⟨0, Nat.zero_le _, rfl, rfl, Below.refl _ _⟩
  case round =>
    obtain ⟨k, hk, rfl, rfl, hbel⟩ := hrel
    have SR := S6.keep hbel
    clear S6 d0 d1 d2
    obtain ⟨c0, c1, c2⟩ := (SR.blk 1 rfl).cell3
    obtain ⟨d0, d1, d2⟩ := (SR.blk 2 rfl).cell3
    have huk := HU64.out k
    by_cases hlt : k < A
    · have HUP : Hid (ups (frow bs (k + 1)) = ups (frow bs k) + (if bs.getD k false then 1 else 0)) := Lib.hid (by rw [HFS.out, ups_snoc])
      have HATk := Lib.hid (fun W h => HAT.out k W (by omega) h)
      generalize ups (frow bs k) = u at *
      cases hp : bs.getD k false with
      | true =>
        rw [hp] at HATk HUP
        clear hp
        go_wp2_with fail
        refine (HATk.out _ (SR.rd 0 rfl)).mono ?_
        rintro e w6 ⟨rfl, hb6⟩
        go_wp2_with fail
        go_roundw
        case rel => exact ⟨k + 1, by omega, by go_num, by rw [HUP.out]; go_num, below_then hbel hb6⟩
        case measure => simp [intOf]; omega
      | false =>
        rw [hp] at HATk HUP
        clear hp
        go_wp2_with fail
        refine (HATk.out _ (SR.rd 0 rfl)).mono ?_
        rintro e w6 ⟨rfl, hb6⟩
        go_wp2_with fail
        go_roundw
        case rel => exact ⟨k + 1, by omega, by go_num, by rw [HUP.out]; rfl, below_then hbel hb6⟩
        case measure => simp [intOf]; omega
    · have hkA : k = A := by omega
      have HKA := Lib.hid hkA
      rw [HKA.out]
      rw [HKA.out] at huk
      clear hkA hlt
      have hu4 : (((ups (frow bs A) : Nat) : Int) == 1) = false := by have := HU1.out; simp; omega
      have hu5 : (((ups (frow bs A) : Nat) : Int) == (A : Int) - 1) = true := by rw [HU2.out]; simp
      generalize ups (frow bs A) = u at *
      go_wp2_with fail
      refine (HM.out _).mono ?_
      rintro e w7 ⟨rfl, hb7⟩
      have ST := SR.keep hb7
      clear c0 c1 c2 d0 d1 d2
      obtain ⟨d0, d1, d2⟩ := (ST.blk 2 rfl).cell3
      go_wp2_with fail
      refine (alive_any _).mono ?_
      rintro e w8 ⟨rfl, hb8⟩
      have SE := ST.keep hb8
      go_wp2_with fail
      go_ret
      exact ⟨rfl, SE.below⟩

set_option maxHeartbeats 4000000 in
set_option maxRecDepth 100000 in
theorem none9_e (a b A B C : Nat) (bs : List Bool) (A0 : Option Addr) (n c : Nat) (w : World) (hr : Rd w A0 n (bs.map Value.bool)) (hc : n ≤ c) (h400 : n ≤ 400)
    (hk : chkG ⟨a, b, bs⟩ = 0) (ha1 : 1 ≤ a) (ha : a ≤ 64) (hb1 : 1 ≤ b) (hb : b ≤ 64) (hl : bs.length = b * a) (hA1 : 1 ≤ A) (hA2 : A ≤ a) (ho : ofG ⟨a, b, bs⟩ = (((A : Int), (B : Int), (C : Int)), 0)) (hC1 : C = 1) (hm : moveB (A : Int) (B : Int) = true) (hu1 : ups (frow bs A) ≠ 1) (hu2 : ((ups (frow bs A) : Nat) : Int) ≠ (A : Int) - 1) :
    Calls Try.prog 7 #[.agg #[.int .i64 a, .int .i64 b, .slice A0 n c]] w fun e w' => e = .returned (.bool true) ∧ Below w.heap.size w w' := by
  have hn : n = b * a := by have := hr.len; simp at this; omega
  have hcb : chk (a : Int) (b : Int) n = 0 := by unfold chkG at hk; simp only at hk; rw [hl, ← hn] at hk; exact hk
  have S0 := ((St.start w).addRd hr).box #[.int .i64 a, .int .i64 b, .slice A0 n c] 24
  simp only [List.nil_append, List.cons_append] at S0
  have HO := Lib.hid (fun W h => of_any ⟨a, b, bs⟩ A0 n c W h hc)
  have HV := Lib.hid (fun W h => moves_any ⟨a, b, bs⟩ A0 n c W h hc)
  have HS := Lib.hid (fun W h => sat_any ⟨a, b, bs⟩ A0 n c W h hc)
  unfold SatRet at HS
  rw [ho] at HO
  have hC4 : ((C : Int) == 1) = true := by rw [hC1]; rfl
  rw [movesG_yes ho hC1] at HV
  rw [satG_no ho (.inr (.inr ⟨hu1, hu2⟩))] at HS
  have HU1 := Lib.hid hu1
  have HU2 := Lib.hid hu2
  clear hC1 hu1 hu2
  have HAT := Lib.hid (fun k W (hk : k < a) h => at6_row0 a b k c A0 bs W ha1 hb1 ha hb hk h)
  rw [← hn] at HAT
  have HFS := Lib.hid (frow_succ bs)
  have HU64 := Lib.hid (fun k => Nat.le_trans (ups_le (frow bs k)) (show _ ≤ k by simp [frow]))
  have HM := Lib.hid (fun W => rmove_any (A : Int) (B : Int) W)
  rw [hm] at HM
  clear hm
  simp only at HO HV HS
  have hA64 : A ≤ 64 := by omega
  have hd : decide (400 < n) = false := by simp; omega
  have hcb2 : (chk (a : Int) (b : Int) n != 0) = false := by rw [hcb]; rfl
  have HN := Lib.hid hn
  clear hk hl ho hn hr
  obtain ⟨c0, c1, c2⟩ := (S0.blk 1 rfl).cell3
  go_enter Try.func7, Try.ntmps7
  go_wp2_with fail
  refine (great9_any _ _ _ _ _ _).mono ?_
  rintro e w1 ⟨rfl, hb1'⟩
  have S1 := S0.keep hb1'
  clear c0 c1 c2
  obtain ⟨c0, c1, c2⟩ := (S1.blk 1 rfl).cell3
  go_wp2_with fail
  refine (rcheck_any _ _ _ _ _ _).mono ?_
  rintro e w2 ⟨rfl, hb2'⟩
  have S2 := S1.keep hb2'
  clear c0 c1 c2 S1
  obtain ⟨c0, c1, c2⟩ := (S2.blk 1 rfl).cell3
  go_wp2_with fail
  refine (HO.out _ (S2.rd 0 rfl)).mono ?_
  rintro e w3 ⟨rfl, hb3'⟩
  have S3 := (S2.keep hb3').box #[.int .i64 A, .int .i64 B, .int .i64 C] 57
  simp only [List.nil_append, List.cons_append] at S3
  clear c0 c1 c2 S2
  obtain ⟨c0, c1, c2⟩ := (S3.blk 1 rfl).cell3
  go_wp2_with fail
  refine (HV.out _ (S3.rd 0 rfl)).mono ?_
  rintro e w4 ⟨A4, n4, cc4, rfl, hown4, hb4'⟩
  obtain rfl : n4 = 1 := by have := hown4.1; simp at this; omega
  have S4 := (S3.keep hb4').addRd (rd_of_own hown4)
  simp only [List.nil_append, List.cons_append] at S4
  clear c0 c1 c2 S3
  obtain ⟨c0, c1, c2⟩ := (S4.blk 1 rfl).cell3
  go_wp2_with fail
  refine (HS.out _ (S4.rd 0 rfl)).mono ?_
  rintro e w5 ⟨rfl, hb5'⟩
  have S5 := S4.keep hb5'
  clear c0 c1 c2 S4
  obtain ⟨d0, d1, d2⟩ := (S5.blk 2 rfl).cell3
  obtain ⟨gm, om, rfl, _, hcm⟩ := (S5.rd 3 rfl).at_ (by omega)
  have m0 := hcm 0 (.int .i64 B) rfl
  rw [Nat.add_zero] at m0
  go_wp2_with fail
  go_quiet (fail)
  have S6 := S5.drewN nq
  clear hcm m0
  clear d0 d1 d2 S5
  obtain ⟨d0, d1, d2⟩ := (S6.blk 2 rfl).cell3
  go_wp2_with fail
  go_loopw [12, 11] (fun i u wr => ∃ k : Nat, k ≤ A ∧ i = .int .i64 k ∧ u = .int .i64 (ups (frow bs k) : Nat) ∧ Below (w5.drewN nq).heap.size (w5.drewN nq) wr) (fun i _ _ => A - (intOf i).toNat)
  case atStart => exact ⟨0, Nat.zero_le _, rfl, rfl, Below.refl _ _⟩
  case round =>
    obtain ⟨k, hk, rfl, rfl, hbel⟩ := hrel
    have SR := S6.keep hbel
    clear S6 d0 d1 d2
    obtain ⟨c0, c1, c2⟩ := (SR.blk 1 rfl).cell3
    obtain ⟨d0, d1, d2⟩ := (SR.blk 2 rfl).cell3
    have huk := HU64.out k
    by_cases hlt : k < A
    · have HUP : Hid (ups (frow bs (k + 1)) = ups (frow bs k) + (if bs.getD k false then 1 else 0)) := Lib.hid (by rw [HFS.out, ups_snoc])
      have HATk := Lib.hid (fun W h => HAT.out k W (by omega) h)
      generalize ups (frow bs k) = u at *
      cases hp : bs.getD k false with
      | true =>
        rw [hp] at HATk HUP
        clear hp
        go_wp2_with fail
        refine (HATk.out _ (SR.rd 0 rfl)).mono ?_
        rintro e w6 ⟨rfl, hb6⟩
        go_wp2_with fail
        go_roundw
        case rel => exact ⟨k + 1, by omega, by go_num, by rw [HUP.out]; go_num, below_then hbel hb6⟩
        case measure => simp [intOf]; omega
      | false =>
        rw [hp] at HATk HUP
        clear hp
        go_wp2_with fail
        refine (HATk.out _ (SR.rd 0 rfl)).mono ?_
        rintro e w6 ⟨rfl, hb6⟩
        go_wp2_with fail
        go_roundw
        case rel => exact ⟨k + 1, by omega, by go_num, by rw [HUP.out]; rfl, below_then hbel hb6⟩
        case measure => simp [intOf]; omega
    · have hkA : k = A := by omega
      have HKA := Lib.hid hkA
      rw [HKA.out]
      rw [HKA.out] at huk
      clear hkA hlt
      have hu4 : (((ups (frow bs A) : Nat) : Int) == 1) = false := by have := HU1.out; simp; omega
      have hu5 : (((ups (frow bs A) : Nat) : Int) == (A : Int) - 1) = false := by have := HU2.out; simpa using this
      generalize ups (frow bs A) = u at *
      go_wp2_with fail
      refine (HM.out _).mono ?_
      rintro e w7 ⟨rfl, hb7⟩
      have ST := SR.keep hb7
      clear c0 c1 c2 d0 d1 d2
      obtain ⟨d0, d1, d2⟩ := (ST.blk 2 rfl).cell3
      go_wp2_with fail
      refine (alive_any _).mono ?_
      rintro e w8 ⟨rfl, hb8⟩
      have SE := ST.keep hb8
      go_wp2_with fail
      go_ret
      exact ⟨rfl, SE.below⟩

set_option maxHeartbeats 4000000 in
set_option maxRecDepth 100000 in
theorem none9_walk (g : Gd) (A : Option Addr) (n c : Nat) (w : World) (hr : Rd w A n (g.bits.map Value.bool)) (hc : n ≤ c) :
    Calls Try.prog 7 #[.agg #[.int .i64 g.w, .int .i64 g.h, .slice A n c]] w fun e w' => e = .returned (.bool true) ∧ Below w.heap.size w w' := by
  have hl0 : g.bits.length = n := by simpa using hr.len
  have S0 := ((St.start w).addRd hr).box #[.int .i64 g.w, .int .i64 g.h, .slice A n c] 24
  simp only [List.nil_append, List.cons_append] at S0
  by_cases h400 : 400 < n
  · have hd : decide (400 < n) = true := by simpa using h400
    clear hl0
    obtain ⟨c0, c1, c2⟩ := (S0.blk 1 rfl).cell3
    go_enter Try.func7, Try.ntmps7
    go_wp2_with fail
    refine (great9_any _ _ _ _ _ _).mono ?_
    rintro e w1 ⟨rfl, hb1⟩
    have S1 := S0.keep hb1
    go_wp2_with fail
    refine (alive_any _).mono ?_
    rintro e w2 ⟨rfl, hb2⟩
    have S2 := S1.keep hb2
    go_wp2_with fail
    go_ret
    exact ⟨rfl, S2.below⟩
  · rcases ofG_cases g with ⟨ht, ho⟩ | ⟨a, b, A', B, C, bs, rfl, hk, ha1, ha, hb1, hb, hl, hA1, hA2, _, _, _, ho⟩
    · have hd : decide (400 < n) = false := by simpa using h400
      have hcb : (chk g.w g.h n != 0) = true := by unfold chkG at ht; rw [hl0] at ht; simpa using ht
      clear hl0 ht ho
      obtain ⟨c0, c1, c2⟩ := (S0.blk 1 rfl).cell3
      go_enter Try.func7, Try.ntmps7
      go_wp2_with fail
      refine (great9_any _ _ _ _ _ _).mono ?_
      rintro e w1 ⟨rfl, hb1⟩
      have S1 := S0.keep hb1
      clear c0 c1 c2
      obtain ⟨c0, c1, c2⟩ := (S1.blk 1 rfl).cell3
      go_wp2_with fail
      refine (rcheck_any _ _ _ _ _ _).mono ?_
      rintro e w2 ⟨rfl, hb2⟩
      have S2 := S1.keep hb2
      go_wp2_with fail
      refine (alive_any _).mono ?_
      rintro e w3 ⟨rfl, hb3⟩
      have S3 := S2.keep hb3
      go_wp2_with fail
      go_ret
      exact ⟨rfl, S3.below⟩
    · by_cases hC : C = 1
      · cases hm : moveB (A' : Int) (B : Int) with
        | false => exact none9_b a b A' B C bs A n c w hr hc (by omega) hk ha1 ha hb1 hb hl hA1 hA2 ho hC hm
        | true =>
          by_cases hu1 : ups (frow bs A') = 1
          · exact none9_c a b A' B C bs A n c w hr hc (by omega) hk ha1 ha hb1 hb hl hA1 hA2 ho hC hm hu1
          · by_cases hu2 : ((ups (frow bs A') : Nat) : Int) = (A' : Int) - 1
            · exact none9_d a b A' B C bs A n c w hr hc (by omega) hk ha1 ha hb1 hb hl hA1 hA2 ho hC hm hu1 hu2
            · exact none9_e a b A' B C bs A n c w hr hc (by omega) hk ha1 ha hb1 hb hl hA1 hA2 ho hC hm hu1 hu2
      · exact none9_a a b A' B C bs A n c w hr hc (by omega) hk ha1 ha hb1 hb hl hA1 hA2 ho hC
end Go.Proofs.Ytbgekiifffnalaa
