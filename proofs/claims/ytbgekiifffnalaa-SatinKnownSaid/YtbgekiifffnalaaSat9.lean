/- Moves and Is of satin, both sides. -/
import Derived.Test.YtbgekiifffnalaaSatP
import Derived.Test.YtbgekiifffnalaaROf
import Derived.Test.YtbgekiifffnalaaPart
import Derived.Test.YtbgekiifffnalaaRCell
import Derived.Test.YtbgekiifffnalaaRetL
import Derived.BigQuiet
namespace Go.Proofs.Ytbgekiifffnalaa
open Go.RowKit

def SatRet (g : Gd) (w : World) (e : Ending) (w' : World) : Prop :=
  e = .returned (.tuple #[.int .i64 (satG g).1.1, .int .i64 (satG g).1.2.1, .bool (satG g).1.2.2, .int .i64 (satG g).2]) ∧ Below w.heap.size w w'
theorem at_row0 (a b k : Nat) (l : List Bool) (H : Int) (A : Option Addr) (c : Nat) (w : World) (ha : a ≤ 64) (hb : b ≤ 64) (hb1 : 1 ≤ b) (hk : k < a) (hr : Rd w A (b * a) (l.map Value.bool)) :
    Calls Try.prog 44 #[.agg #[.int .i64 a, .int .i64 H, .slice A (b * a) c], .int .i64 k, .int .i64 0] w fun e w' => e = .returned (.bool (l.getD k false)) ∧ Below w.heap.size w w' :=
  at_to a b k 0 l H A c w (by simp) ha hb hk (by omega) hr

set_option maxHeartbeats 1000000 in
theorem moves_any (g : Gd) (A0 : Option Addr) (n c : Nat) (w : World) (hr : Rd w A0 n (g.bits.map Value.bool)) (hc : n ≤ c) :
    Calls Try.prog 11 #[.agg #[.int .i64 g.w, .int .i64 g.h, .slice A0 n c]] w (RetL (movesG g) w) := by
  have S0 := ((St.start w).addRd hr).box #[.int .i64 g.w, .int .i64 g.h, .slice A0 n c] 24
  simp only [List.nil_append, List.cons_append] at S0
  obtain ⟨c0, c1, c2⟩ := (S0.blk 1 rfl).cell3
  have HO := Lib.hid (fun W h => of_any g A0 n c W h hc)
  rcases ofG_cases g with ⟨ht, ho⟩ | ⟨a, b, A, B, C, bs, rfl, hk, ha1, ha, hb1, hb, hl, hA1, hA2, hB, hC1, hC2, ho⟩
  · rw [movesG_bad ho ht]
    rw [ho] at HO
    generalize chkG g = t at *
    have htb : (t != 0) = true := by simpa using ht
    clear ht ho
    go_enter Try.func11, Try.ntmps11
    go_wp2_with fail
    refine (HO.out _ (S0.rd 0 rfl)).mono ?_
    rintro e w1 ⟨rfl, hb1⟩
    have S := (S0.keep hb1).box #[.int .i64 0, .int .i64 0, .int .i64 0] 57
    simp only [List.nil_append, List.cons_append] at S
    clear c0 c1 c2 S0
    obtain ⟨c0, c1, c2⟩ := (S.blk 2 rfl).cell3
    go_wp2_with fail
    go_ret2
    exact retL_bad S.below
  · rw [ho] at HO
    by_cases hC : C = 1
    · rw [movesG_yes ho hC]
      have hC3 : ¬ 1 < (C : Int) := by omega
      have hC4 : ((C : Int) != 1) = false := by rw [hC]; rfl
      clear ho hk hl hC
      go_enter Try.func11, Try.ntmps11
      go_wp2_with fail
      refine (HO.out _ (S0.rd 0 rfl)).mono ?_
      rintro e w1 ⟨rfl, hb1⟩
      have S := (S0.keep hb1).box #[.int .i64 A, .int .i64 B, .int .i64 C] 57
      simp only [List.nil_append, List.cons_append] at S
      clear c0 c1 c2 S0
      obtain ⟨c0, c1, c2⟩ := (S.blk 2 rfl).cell3
      go_wp2_with fail
      go_ret2
      have hsz := S.size
      have S9 := S.box #[.int .i64 B] 3
      simp only [size_alloc1, List.nil_append, List.cons_append] at S9 hsz
      exact ⟨_, 1, 1, rfl, own_of_blk (cs := #[.int .i64 B]) (S9.blk 3 rfl) hsz (by simp [maxLen]), S9.below⟩
    · rw [movesG_no ho hC]
      have hC3 : 1 < (C : Int) := by omega
      clear ho hk hl
      go_enter Try.func11, Try.ntmps11
      go_wp2_with fail
      refine (HO.out _ (S0.rd 0 rfl)).mono ?_
      rintro e w1 ⟨rfl, hb1⟩
      have S := (S0.keep hb1).box #[.int .i64 A, .int .i64 B, .int .i64 C] 57
      simp only [List.nil_append, List.cons_append] at S
      clear c0 c1 c2 S0
      obtain ⟨c0, c1, c2⟩ := (S.blk 2 rfl).cell3
      go_wp2_with fail
      go_ret2
      exact retL_bad S.below

set_option maxHeartbeats 1000000 in
theorem rmoves9_any (g : Gd) (A0 : Option Addr) (n c : Nat) (w : World) (hr : Rd w A0 n (g.bits.map Value.bool)) :
    Calls Try.prog 12 #[.agg #[.int .i64 g.w, .int .i64 g.h, .slice A0 n c]] w (RetL (movesG g) w) := by
  have S0 := ((St.start w).addRd hr).box #[.int .i64 g.w, .int .i64 g.h, .slice A0 n c] 24
  simp only [List.nil_append, List.cons_append] at S0
  obtain ⟨c0, c1, c2⟩ := (S0.blk 1 rfl).cell3
  have HO := Lib.hid (fun W h => rof_any g A0 n c W h)
  rcases ofG_cases g with ⟨ht, ho⟩ | ⟨a, b, A, B, C, bs, rfl, hk, ha1, ha, hb1, hb, hl, hA1, hA2, hB, hC1, hC2, ho⟩
  · rw [movesG_bad ho ht]
    rw [ho] at HO
    generalize chkG g = t at *
    have htb : (t != 0) = true := by simpa using ht
    clear ht ho
    go_enter Try.func12, Try.ntmps12
    go_wp2_with fail
    refine (HO.out _ (S0.rd 0 rfl)).mono ?_
    rintro e w1 ⟨rfl, hb1⟩
    have S := (S0.keep hb1).box #[.int .i64 0, .int .i64 0, .int .i64 0] 57
    simp only [List.nil_append, List.cons_append] at S
    clear c0 c1 c2 S0
    obtain ⟨c0, c1, c2⟩ := (S.blk 2 rfl).cell3
    go_wp2_with fail
    go_ret2
    exact retL_bad S.below
  · rw [ho] at HO
    by_cases hC : C = 1
    · rw [movesG_yes ho hC]
      have hC3 : ¬ 1 < (C : Int) := by omega
      have hC4 : ((C : Int) != 1) = false := by rw [hC]; rfl
      clear ho hk hl hC
      go_enter Try.func12, Try.ntmps12
      go_wp2_with fail
      refine (HO.out _ (S0.rd 0 rfl)).mono ?_
      rintro e w1 ⟨rfl, hb1⟩
      have S := (S0.keep hb1).box #[.int .i64 A, .int .i64 B, .int .i64 C] 57
      simp only [List.nil_append, List.cons_append] at S
      clear c0 c1 c2 S0
      obtain ⟨c0, c1, c2⟩ := (S.blk 2 rfl).cell3
      go_wp2_with fail
      go_ret2
      have hsz := S.size
      have S9 := S.box #[.int .i64 B] 3
      simp only [size_alloc1, List.nil_append, List.cons_append] at S9 hsz
      exact ⟨_, 1, 1, rfl, own_of_blk (cs := #[.int .i64 B]) (S9.blk 3 rfl) hsz (by simp [maxLen]), S9.below⟩
    · rw [movesG_no ho hC]
      have hC3 : 1 < (C : Int) := by omega
      clear ho hk hl
      go_enter Try.func12, Try.ntmps12
      go_wp2_with fail
      refine (HO.out _ (S0.rd 0 rfl)).mono ?_
      rintro e w1 ⟨rfl, hb1⟩
      have S := (S0.keep hb1).box #[.int .i64 A, .int .i64 B, .int .i64 C] 57
      simp only [List.nil_append, List.cons_append] at S
      clear c0 c1 c2 S0
      obtain ⟨c0, c1, c2⟩ := (S.blk 2 rfl).cell3
      go_wp2_with fail
      go_ret2
      exact retL_bad S.below

set_option maxHeartbeats 2000000 in
theorem sat_any (g : Gd) (A0 : Option Addr) (n c : Nat) (w : World) (hr : Rd w A0 n (g.bits.map Value.bool)) (hc : n ≤ c) :
    Calls Try.prog 13 #[.agg #[.int .i64 g.w, .int .i64 g.h, .slice A0 n c]] w (SatRet g w) := by
  have S0 := ((St.start w).addRd hr).box #[.int .i64 g.w, .int .i64 g.h, .slice A0 n c] 24
  simp only [List.nil_append, List.cons_append] at S0
  obtain ⟨c0, c1, c2⟩ := (S0.blk 1 rfl).cell3
  have HO := Lib.hid (fun W h => of_any g A0 n c W h hc)
  have hn : g.bits.length = n := by simpa using hr.len
  rcases ofG_cases g with ⟨ht, ho⟩ | ⟨a, b, A, B, C, bs, rfl, hk, ha1, ha, hb1, hb, hl, hA1, hA2, hB, hC1, hC2, ho⟩
  · have HQ := Lib.hid (satG_bad ho ht)
    rw [ho] at HO
    generalize chkG g = t at *
    have htb : (t != 0) = true := by simpa using ht
    clear ht ho
    go_enter Try.func13, Try.ntmps13
    go_wp2_with fail
    refine (HO.out _ (S0.rd 0 rfl)).mono ?_
    rintro e w1 ⟨rfl, hb1⟩
    have S := (S0.keep hb1).box #[.int .i64 0, .int .i64 0, .int .i64 0] 57
    simp only [List.nil_append, List.cons_append] at S
    clear c0 c1 c2 S0
    obtain ⟨c0, c1, c2⟩ := (S.blk 1 rfl).cell3
    obtain ⟨d0, d1, d2⟩ := (S.blk 2 rfl).cell3
    go_wp2_with fail
    refine bodyPost_ret (v := .tuple #[.int .i64 0, .int .i64 0, .bool false, .int .i64 t]) (by simp [results, Try.results13, go_sem]) rfl ?_
    exact ⟨by first | (rw [HQ.out]; done) | (rw [HQ.out]; rfl), S.below⟩
  · rw [ho] at HO
    have HNO := Lib.hid (fun h => satG_no ho h)
    have HYES := Lib.hid (fun (u : Bool) h1 h2 h3 h4 => satG_yes (u := u) ho h1 h2 h3 h4)
    simp only at hn HNO HYES
    have HP := part_frow hk hA1 hA2 hb1
    have HCT := countG_ok (chk_frow (bs := bs) hA1 (by omega : A ≤ 64))
    have HPA := Lib.hid (fun W h => part_any ⟨a, b, bs⟩ 0 0 (A : Int) 1 A0 n c W h)
    rw [HP] at HPA
    have HCA := Lib.hid (fun A' n' c' W h => count_any ⟨(A : Int), 1, frow bs A⟩ A' n' c' W h)
    rw [HCT] at HCA
    simp only at HPA HCA
    clear HP HCT
    have HM := Lib.hid (fun W => move_any (A : Int) (B : Int) W)
    have hu64 : ups (frow bs A) ≤ 64 := Nat.le_trans (ups_le _) (by simp [frow]; omega)
    generalize ups (frow bs A) = u at *
    generalize frow bs A = fr at *
    generalize moveB (A : Int) (B : Int) = mb at *
    clear hk ho hl
    by_cases hC : C = 1
    · have HC := Lib.hid hC
      have hC3 : ¬ 1 < (C : Int) := by omega
      have hC4 : ((C : Int) != 1) = false := by rw [hC]; rfl
      clear hC
      cases mb with
      | false =>
        go_enter Try.func13, Try.ntmps13
        go_wp2_with fail
        refine (HO.out _ (S0.rd 0 rfl)).mono ?_
        rintro e w1 ⟨rfl, hb1⟩
        have S := (S0.keep hb1).box #[.int .i64 A, .int .i64 B, .int .i64 C] 57
        simp only [List.nil_append, List.cons_append] at S
        clear c0 c1 c2 S0
        obtain ⟨c0, c1, c2⟩ := (S.blk 1 rfl).cell3
        obtain ⟨d0, d1, d2⟩ := (S.blk 2 rfl).cell3
        go_wp2_with fail
        refine (HPA.out _ (S.rd 0 rfl)).mono ?_
        rintro e w2 ⟨A2, n2, c2', rfl, hown2, hb2⟩
        simp only at hown2 ⊢
        have S2 := ((S.keep hb2).addRd (rd_of_own hown2)).box #[.int .i64 A, .int .i64 1, .slice A2 n2 c2'] 24
        simp only [List.nil_append, List.cons_append] at S2
        clear S c0 c1 c2 d0 d1 d2
        obtain ⟨c0, c1, c2⟩ := (S2.blk 4 rfl).cell3
        go_wp2_with fail
        refine (HCA.out _ _ _ _ (S2.rd 3 rfl)).mono ?_
        rintro e w3 ⟨rfl, hb3⟩
        have S := S2.keep hb3
        clear S2 c0 c1 c2
        obtain ⟨d0, d1, d2⟩ := (S.blk 2 rfl).cell3
        go_wp2_with fail
        refine (HM.out _).mono ?_
        rintro e w4 ⟨rfl, hb4⟩
        have S := S.keep hb4
        clear d0 d1 d2
        obtain ⟨d0, d1, d2⟩ := (S.blk 2 rfl).cell3
        go_wp2_with fail
        refine bodyPost_ret (v := .tuple #[.int .i64 0, .int .i64 0, .bool false, .int .i64 6]) (by simp [results, Try.results13, go_sem]) rfl ?_
        exact ⟨by first | (rw [HNO.out (by simp)]; done) | (rw [HNO.out (by simp)]; rfl), S.below⟩
      | true =>
        by_cases hu1 : u = 1
        · have HQ := Lib.hid (HYES.out true HC.out (by simp) (.inl hu1) (decide_eq_true hu1))
          subst hu1
          go_enter Try.func13, Try.ntmps13
          go_wp2_with fail
          refine (HO.out _ (S0.rd 0 rfl)).mono ?_
          rintro e w1 ⟨rfl, hb1⟩
          have S := (S0.keep hb1).box #[.int .i64 A, .int .i64 B, .int .i64 C] 57
          simp only [List.nil_append, List.cons_append] at S
          clear c0 c1 c2 S0
          obtain ⟨c0, c1, c2⟩ := (S.blk 1 rfl).cell3
          obtain ⟨d0, d1, d2⟩ := (S.blk 2 rfl).cell3
          go_wp2_with fail
          refine (HPA.out _ (S.rd 0 rfl)).mono ?_
          rintro e w2 ⟨A2, n2, c2', rfl, hown2, hb2⟩
          simp only at hown2 ⊢
          have S2 := ((S.keep hb2).addRd (rd_of_own hown2)).box #[.int .i64 A, .int .i64 1, .slice A2 n2 c2'] 24
          simp only [List.nil_append, List.cons_append] at S2
          clear S c0 c1 c2 d0 d1 d2
          obtain ⟨c0, c1, c2⟩ := (S2.blk 4 rfl).cell3
          go_wp2_with fail
          refine (HCA.out _ _ _ _ (S2.rd 3 rfl)).mono ?_
          rintro e w3 ⟨rfl, hb3⟩
          have S := S2.keep hb3
          clear S2 c0 c1 c2
          obtain ⟨d0, d1, d2⟩ := (S.blk 2 rfl).cell3
          go_wp2_with fail
          refine (HM.out _).mono ?_
          rintro e w4 ⟨rfl, hb4⟩
          have S := S.keep hb4
          clear d0 d1 d2
          obtain ⟨d0, d1, d2⟩ := (S.blk 2 rfl).cell3
          go_wp2_with fail
          go_quiet (fail)
          go_wp2_with fail
          have S := S.drewN nq
          refine bodyPost_ret (v := .tuple #[.int .i64 A, .int .i64 B, .bool true, .int .i64 0]) (by simp [results, Try.results13, go_sem]) rfl ?_
          exact ⟨by first | (rw [HQ.out]; done) | (rw [HQ.out]; rfl), S.below⟩
        by_cases hu2 : (u : Int) = (A : Int) - 1
        · have HQ := Lib.hid (HYES.out false HC.out (by simp) (.inr hu2) (decide_eq_false hu1))
          have hu4 : ((u : Int) != 1) = true := by simp; omega
          have hu5 : ((u : Int) != (A : Int) - 1) = false := by simp [hu2]
          have hu6 : ((u : Int) == 1) = false := by simp; omega
          clear hu1 hu2
          go_enter Try.func13, Try.ntmps13
          go_wp2_with fail
          refine (HO.out _ (S0.rd 0 rfl)).mono ?_
          rintro e w1 ⟨rfl, hb1⟩
          have S := (S0.keep hb1).box #[.int .i64 A, .int .i64 B, .int .i64 C] 57
          simp only [List.nil_append, List.cons_append] at S
          clear c0 c1 c2 S0
          obtain ⟨c0, c1, c2⟩ := (S.blk 1 rfl).cell3
          obtain ⟨d0, d1, d2⟩ := (S.blk 2 rfl).cell3
          go_wp2_with fail
          refine (HPA.out _ (S.rd 0 rfl)).mono ?_
          rintro e w2 ⟨A2, n2, c2', rfl, hown2, hb2⟩
          simp only at hown2 ⊢
          have S2 := ((S.keep hb2).addRd (rd_of_own hown2)).box #[.int .i64 A, .int .i64 1, .slice A2 n2 c2'] 24
          simp only [List.nil_append, List.cons_append] at S2
          clear S c0 c1 c2 d0 d1 d2
          obtain ⟨c0, c1, c2⟩ := (S2.blk 4 rfl).cell3
          go_wp2_with fail
          refine (HCA.out _ _ _ _ (S2.rd 3 rfl)).mono ?_
          rintro e w3 ⟨rfl, hb3⟩
          have S := S2.keep hb3
          clear S2 c0 c1 c2
          obtain ⟨d0, d1, d2⟩ := (S.blk 2 rfl).cell3
          go_wp2_with fail
          refine (HM.out _).mono ?_
          rintro e w4 ⟨rfl, hb4⟩
          have S := S.keep hb4
          clear d0 d1 d2
          obtain ⟨d0, d1, d2⟩ := (S.blk 2 rfl).cell3
          go_wp2_with fail
          go_quiet (fail)
          go_wp2_with fail
          have S := S.drewN nq
          refine bodyPost_ret (v := .tuple #[.int .i64 A, .int .i64 B, .bool false, .int .i64 0]) (by simp [results, Try.results13, go_sem]) rfl ?_
          exact ⟨by first | (rw [HQ.out]; done) | (rw [HQ.out]; rfl), S.below⟩
        have HQ := Lib.hid (HNO.out (.inr (.inr ⟨hu1, hu2⟩)))
        have hu4 : ((u : Int) != 1) = true := by simp; omega
        have hu5 : ((u : Int) != (A : Int) - 1) = true := by simpa using hu2
        clear hu1 hu2
        go_enter Try.func13, Try.ntmps13
        go_wp2_with fail
        refine (HO.out _ (S0.rd 0 rfl)).mono ?_
        rintro e w1 ⟨rfl, hb1⟩
        have S := (S0.keep hb1).box #[.int .i64 A, .int .i64 B, .int .i64 C] 57
        simp only [List.nil_append, List.cons_append] at S
        clear c0 c1 c2 S0
        obtain ⟨c0, c1, c2⟩ := (S.blk 1 rfl).cell3
        obtain ⟨d0, d1, d2⟩ := (S.blk 2 rfl).cell3
        go_wp2_with fail
        refine (HPA.out _ (S.rd 0 rfl)).mono ?_
        rintro e w2 ⟨A2, n2, c2', rfl, hown2, hb2⟩
        simp only at hown2 ⊢
        have S2 := ((S.keep hb2).addRd (rd_of_own hown2)).box #[.int .i64 A, .int .i64 1, .slice A2 n2 c2'] 24
        simp only [List.nil_append, List.cons_append] at S2
        clear S c0 c1 c2 d0 d1 d2
        obtain ⟨c0, c1, c2⟩ := (S2.blk 4 rfl).cell3
        go_wp2_with fail
        refine (HCA.out _ _ _ _ (S2.rd 3 rfl)).mono ?_
        rintro e w3 ⟨rfl, hb3⟩
        have S := S2.keep hb3
        clear S2 c0 c1 c2
        obtain ⟨d0, d1, d2⟩ := (S.blk 2 rfl).cell3
        go_wp2_with fail
        refine (HM.out _).mono ?_
        rintro e w4 ⟨rfl, hb4⟩
        have S := S.keep hb4
        clear d0 d1 d2
        obtain ⟨d0, d1, d2⟩ := (S.blk 2 rfl).cell3
        go_wp2_with fail
        refine bodyPost_ret (v := .tuple #[.int .i64 0, .int .i64 0, .bool false, .int .i64 6]) (by simp [results, Try.results13, go_sem]) rfl ?_
        exact ⟨by first | (rw [HQ.out]; done) | (rw [HQ.out]; rfl), S.below⟩
    · have hC9 := hC
      have hC3 : 1 < (C : Int) := by omega
      go_enter Try.func13, Try.ntmps13
      go_wp2_with fail
      refine (HO.out _ (S0.rd 0 rfl)).mono ?_
      rintro e w1 ⟨rfl, hb1⟩
      have S := (S0.keep hb1).box #[.int .i64 A, .int .i64 B, .int .i64 C] 57
      simp only [List.nil_append, List.cons_append] at S
      clear c0 c1 c2 S0
      obtain ⟨c0, c1, c2⟩ := (S.blk 1 rfl).cell3
      obtain ⟨d0, d1, d2⟩ := (S.blk 2 rfl).cell3
      go_wp2_with fail
      refine (HPA.out _ (S.rd 0 rfl)).mono ?_
      rintro e w2 ⟨A2, n2, c2', rfl, hown2, hb2⟩
      simp only at hown2 ⊢
      have S2 := ((S.keep hb2).addRd (rd_of_own hown2)).box #[.int .i64 A, .int .i64 1, .slice A2 n2 c2'] 24
      simp only [List.nil_append, List.cons_append] at S2
      clear S c0 c1 c2 d0 d1 d2
      obtain ⟨c0, c1, c2⟩ := (S2.blk 4 rfl).cell3
      go_wp2_with fail
      refine (HCA.out _ _ _ _ (S2.rd 3 rfl)).mono ?_
      rintro e w3 ⟨rfl, hb3⟩
      have S := S2.keep hb3
      clear S2 c0 c1 c2
      obtain ⟨d0, d1, d2⟩ := (S.blk 2 rfl).cell3
      go_wp2_with fail
      refine bodyPost_ret (v := .tuple #[.int .i64 0, .int .i64 0, .bool false, .int .i64 6]) (by simp [results, Try.results13, go_sem]) rfl ?_
      exact ⟨by first | (rw [HNO.out (.inl hC9)]; done) | (rw [HNO.out (.inl hC9)]; rfl), S.below⟩

set_option maxHeartbeats 2000000 in
theorem rsat_any (g : Gd) (A0 : Option Addr) (n c : Nat) (w : World) (hr : Rd w A0 n (g.bits.map Value.bool)) :
    Calls Try.prog 14 #[.agg #[.int .i64 g.w, .int .i64 g.h, .slice A0 n c]] w (SatRet g w) := by
  have S0 := ((St.start w).addRd hr).box #[.int .i64 g.w, .int .i64 g.h, .slice A0 n c] 24
  simp only [List.nil_append, List.cons_append] at S0
  obtain ⟨c0, c1, c2⟩ := (S0.blk 1 rfl).cell3
  have HO := Lib.hid (fun W h => rof_any g A0 n c W h)
  have hn : g.bits.length = n := by simpa using hr.len
  rcases ofG_cases g with ⟨ht, ho⟩ | ⟨a, b, A, B, C, bs, rfl, hk, ha1, ha, hb1, hb, hl, hA1, hA2, hB, hC1, hC2, ho⟩
  · have HQ := Lib.hid (satG_bad ho ht)
    rw [ho] at HO
    generalize chkG g = t at *
    have htb : (t != 0) = true := by simpa using ht
    clear ht ho
    go_enter Try.func14, Try.ntmps14
    go_wp2_with fail
    refine (HO.out _ (S0.rd 0 rfl)).mono ?_
    rintro e w1 ⟨rfl, hb1⟩
    have S := (S0.keep hb1).box #[.int .i64 0, .int .i64 0, .int .i64 0] 57
    simp only [List.nil_append, List.cons_append] at S
    clear c0 c1 c2 S0
    obtain ⟨c0, c1, c2⟩ := (S.blk 1 rfl).cell3
    obtain ⟨d0, d1, d2⟩ := (S.blk 2 rfl).cell3
    go_wp2_with fail
    refine bodyPost_ret (v := .tuple #[.int .i64 0, .int .i64 0, .bool false, .int .i64 t]) (by simp [results, Try.results14, go_sem]) rfl ?_
    exact ⟨by first | (rw [HQ.out]; done) | (rw [HQ.out]; rfl), S.below⟩
  · rw [ho] at HO
    have HNO := Lib.hid (fun h => satG_no ho h)
    have HYES := Lib.hid (fun (u : Bool) h1 h2 h3 h4 => satG_yes (u := u) ho h1 h2 h3 h4)
    simp only at hn HNO HYES
    have hn2 : n = b * a := by omega
    subst hn2
    have HAT := Lib.hid (fun k W (hk : k < a) h => at_row0 a b k bs b A0 c W ha hb hb1 hk h)
    have HFS := Lib.hid (frow_succ bs)
    have HM := Lib.hid (fun W => rmove_any (A : Int) (B : Int) W)
    have HU64 := Lib.hid (fun k => Nat.le_trans (ups_le (frow bs k)) (show _ ≤ k by simp [frow]))
    generalize moveB (A : Int) (B : Int) = mb at *
    generalize b * a = n at *
    clear hk ho hl
    by_cases hC : C = 1
    · have HC := Lib.hid hC
      have hC3 : ¬ 1 < (C : Int) := by omega
      have hC4 : ((C : Int) != 1) = false := by rw [hC]; rfl
      clear hC
      cases mb with
      | false =>
        go_enter Try.func14, Try.ntmps14
        go_wp2_with fail
        refine (HO.out _ (S0.rd 0 rfl)).mono ?_
        rintro e w1 ⟨rfl, hb1⟩
        have S := (S0.keep hb1).box #[.int .i64 A, .int .i64 B, .int .i64 C] 57
        simp only [List.nil_append, List.cons_append] at S
        clear c0 c1 c2 S0
        obtain ⟨c0, c1, c2⟩ := (S.blk 1 rfl).cell3
        obtain ⟨d0, d1, d2⟩ := (S.blk 2 rfl).cell3
        go_wp2_with fail
        refine (HM.out _).mono ?_
        rintro e w4 ⟨rfl, hb4⟩
        have S := S.keep hb4
        clear d0 d1 d2
        obtain ⟨d0, d1, d2⟩ := (S.blk 2 rfl).cell3
        go_wp2_with fail
        refine bodyPost_ret (v := .tuple #[.int .i64 0, .int .i64 0, .bool false, .int .i64 6]) (by simp [results, Try.results14, go_sem]) rfl ?_
        exact ⟨by first | (rw [HNO.out (by simp)]; done) | (rw [HNO.out (by simp)]; rfl), S.below⟩
      | true =>
        go_enter Try.func14, Try.ntmps14
        go_wp2_with fail
        refine (HO.out _ (S0.rd 0 rfl)).mono ?_
        rintro e w1 ⟨rfl, hb1⟩
        have S := (S0.keep hb1).box #[.int .i64 A, .int .i64 B, .int .i64 C] 57
        simp only [List.nil_append, List.cons_append] at S
        clear c0 c1 c2 S0
        obtain ⟨c0, c1, c2⟩ := (S.blk 1 rfl).cell3
        obtain ⟨d0, d1, d2⟩ := (S.blk 2 rfl).cell3
        go_wp2_with fail
        refine (HM.out _).mono ?_
        rintro e w4 ⟨rfl, hb4⟩
        have S := S.keep hb4
        clear d0 d1 d2
        obtain ⟨d0, d1, d2⟩ := (S.blk 2 rfl).cell3
        go_wp2_with fail
        go_loopw [9, 8] (fun i u wr => ∃ k : Nat, k ≤ A ∧ i = .int .i64 k ∧ u = .int .i64 (ups (frow bs k) : Nat) ∧ Below w4.heap.size w4 wr) (fun i _ _ => A - (intOf i).toNat)
        case atStart => exact ⟨0, Nat.zero_le _, rfl, rfl, Below.refl _ _⟩
        case round =>
          obtain ⟨k, hk, rfl, rfl, hbel⟩ := hrel
          have SR := S.keep hbel
          clear S c0 c1 c2 d0 d1 d2
          obtain ⟨c0, c1, c2⟩ := (SR.blk 1 rfl).cell3
          obtain ⟨d0, d1, d2⟩ := (SR.blk 2 rfl).cell3
          have huk := HU64.out k
          by_cases hlt : k < A
          · have HUP : Hid (ups (frow bs (k + 1)) = ups (frow bs k) + (if bs.getD k false then 1 else 0)) := Lib.hid (by rw [HFS.out, ups_snoc])
            have HATk := Lib.hid (fun W h => HAT.out k W (by omega) h)
            generalize ups (frow bs k) = u at *
            cases hp : bs.getD k false with
            | true =>
              rw [hp] at HATk HUP
              clear hp
              go_wp2_with fail
              refine (HATk.out _ (SR.rd 0 rfl)).mono ?_
              rintro e w5 ⟨rfl, hb5⟩
              go_wp2_with fail
              go_roundw
              case rel => exact ⟨k + 1, by omega, by go_num, by rw [HUP.out]; go_num, below_then hbel hb5⟩
              case measure => simp [intOf]; omega
            | false =>
              rw [hp] at HATk HUP
              clear hp
              go_wp2_with fail
              refine (HATk.out _ (SR.rd 0 rfl)).mono ?_
              rintro e w5 ⟨rfl, hb5⟩
              go_wp2_with fail
              go_roundw
              case rel => exact ⟨k + 1, by omega, by go_num, by rw [HUP.out]; rfl, below_then hbel hb5⟩
              case measure => simp [intOf]; omega
          · have hkA : k = A := by omega
            have HKA := Lib.hid hkA
            rw [HKA.out]
            rw [HKA.out] at huk
            clear hkA hlt
            generalize ups (frow bs A) = u at *
            by_cases hu1 : u = 1
            · have HQ := Lib.hid (HYES.out true HC.out (by simp) (.inl hu1) (decide_eq_true hu1))
              have hu4 : ((u : Int) != 1) = false := by simp [hu1]
              have hu6 : ((u : Int) == 1) = true := by simp [hu1]
              clear hu1
              go_wp2_with fail
              go_quiet (fail)
              go_wp2_with fail
              have S := SR.drewN nq
              refine bodyPost_ret (v := .tuple #[.int .i64 A, .int .i64 B, .bool true, .int .i64 0]) (by simp [results, Try.results14, go_sem]) rfl ?_
              exact ⟨by first | (rw [HQ.out]; done) | (rw [HQ.out]; rfl), S.below⟩
            by_cases hu2 : (u : Int) = (A : Int) - 1
            · have HQ := Lib.hid (HYES.out false HC.out (by simp) (.inr hu2) (decide_eq_false hu1))
              have hu4 : ((u : Int) != 1) = true := by simp; omega
              have hu5 : ((u : Int) != (A : Int) - 1) = false := by simp [hu2]
              have hu6 : ((u : Int) == 1) = false := by simp; omega
              clear hu1 hu2
              go_wp2_with fail
              go_quiet (fail)
              go_wp2_with fail
              have S := SR.drewN nq
              refine bodyPost_ret (v := .tuple #[.int .i64 A, .int .i64 B, .bool false, .int .i64 0]) (by simp [results, Try.results14, go_sem]) rfl ?_
              exact ⟨by first | (rw [HQ.out]; done) | (rw [HQ.out]; rfl), S.below⟩
            have HQ := Lib.hid (HNO.out (.inr (.inr ⟨hu1, hu2⟩)))
            have hu4 : ((u : Int) != 1) = true := by simp; omega
            have hu5 : ((u : Int) != (A : Int) - 1) = true := by simpa using hu2
            clear hu1 hu2
            go_wp2_with fail
            refine bodyPost_ret (v := .tuple #[.int .i64 0, .int .i64 0, .bool false, .int .i64 6]) (by simp [results, Try.results14, go_sem]) rfl ?_
            exact ⟨by first | (rw [HQ.out]; done) | (rw [HQ.out]; rfl), SR.below⟩
    · have hC9 := hC
      have hC3 : 1 < (C : Int) := by omega
      go_enter Try.func14, Try.ntmps14
      go_wp2_with fail
      refine (HO.out _ (S0.rd 0 rfl)).mono ?_
      rintro e w1 ⟨rfl, hb1⟩
      have S := (S0.keep hb1).box #[.int .i64 A, .int .i64 B, .int .i64 C] 57
      simp only [List.nil_append, List.cons_append] at S
      clear c0 c1 c2 S0
      obtain ⟨c0, c1, c2⟩ := (S.blk 1 rfl).cell3
      obtain ⟨d0, d1, d2⟩ := (S.blk 2 rfl).cell3
      go_wp2_with fail
      refine bodyPost_ret (v := .tuple #[.int .i64 0, .int .i64 0, .bool false, .int .i64 6]) (by simp [results, Try.results14, go_sem]) rfl ?_
      exact ⟨by first | (rw [HNO.out (.inl hC9)]; done) | (rw [HNO.out (.inl hC9)]; rfl), S.below⟩
end Go.Proofs.Ytbgekiifffnalaa
