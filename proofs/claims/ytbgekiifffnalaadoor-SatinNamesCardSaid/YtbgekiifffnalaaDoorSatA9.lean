/- Moves and Is of satin. -/
import Derived.Test.YtbgekiifffnalaaDoorSatP
import Derived.Test.YtbgekiifffnalaaDoorPart
import Derived.Test.YtbgekiifffnalaaDoorRetL
import Derived.BigQuiet
namespace Go.Proofs.YtbgekiifffnalaaDoor
open Go.RowKit

def SatRet (g : Gd) (w : World) (e : Ending) (w' : World) : Prop :=
  e = .returned (.tuple #[.int .i64 (satG g).1.1, .int .i64 (satG g).1.2.1, .bool (satG g).1.2.2, .int .i64 (satG g).2]) ∧ Below w.heap.size w w'

set_option maxHeartbeats 1000000 in
theorem moves_any (g : Gd) (A0 : Option Addr) (n c : Nat) (w : World) (hr : Rd w A0 n (g.bits.map Value.bool)) (hc : n ≤ c) :
    Calls Tryd.prog 9 #[.agg #[.int .i64 g.w, .int .i64 g.h, .slice A0 n c]] w (RetL (movesG g) w) := by
  have S0 := ((St.start w).addRd hr).box #[.int .i64 g.w, .int .i64 g.h, .slice A0 n c] 24
  simp only [List.nil_append, List.cons_append] at S0
  obtain ⟨c0, c1, c2⟩ := (S0.blk 1 rfl).cell3
  have HO := Lib.hid (fun W h => of_any g A0 n c W h hc)
  rcases ofG_cases g with ⟨ht, ho⟩ | ⟨a, b, A, B, C, bs, rfl, hk, ha1, ha, hb1, hb, hl, hA1, hA2, hB, hC1, hC2, ho⟩
  · rw [movesG_bad ho ht]
    rw [ho] at HO
    generalize chkG g = t at *
    have htb : (t != 0) = true := by simpa using ht
    clear ht ho
    go_enter Tryd.func9, Tryd.ntmps9
    go_wp2_with fail
    refine (HO.out _ (S0.rd 0 rfl)).mono ?_
    rintro e w1 ⟨rfl, hb1⟩
    have S := (S0.keep hb1).box #[.int .i64 0, .int .i64 0, .int .i64 0] 46
    simp only [List.nil_append, List.cons_append] at S
    clear c0 c1 c2 S0
    obtain ⟨c0, c1, c2⟩ := (S.blk 2 rfl).cell3
    go_wp2_with fail
    go_ret2
    exact retL_bad S.below
  · rw [ho] at HO
    by_cases hC : C = 1
    · rw [movesG_yes ho hC]
      have hC3 : ¬ 1 < (C : Int) := by omega
      have hC4 : ((C : Int) != 1) = false := by rw [hC]; rfl
      clear ho hk hl hC
      go_enter Tryd.func9, Tryd.ntmps9
      go_wp2_with fail
      refine (HO.out _ (S0.rd 0 rfl)).mono ?_
      rintro e w1 ⟨rfl, hb1⟩
      have S := (S0.keep hb1).box #[.int .i64 A, .int .i64 B, .int .i64 C] 46
      simp only [List.nil_append, List.cons_append] at S
      clear c0 c1 c2 S0
      obtain ⟨c0, c1, c2⟩ := (S.blk 2 rfl).cell3
      go_wp2_with fail
      go_ret2
      have hsz := S.size
      have S9 := S.box #[.int .i64 B] 3
      simp only [size_alloc1, List.nil_append, List.cons_append] at S9 hsz
      exact ⟨_, 1, 1, rfl, own_of_blk (cs := #[.int .i64 B]) (S9.blk 3 rfl) hsz (by simp [maxLen]), S9.below⟩
    · rw [movesG_no ho hC]
      have hC3 : 1 < (C : Int) := by omega
      clear ho hk hl
      go_enter Tryd.func9, Tryd.ntmps9
      go_wp2_with fail
      refine (HO.out _ (S0.rd 0 rfl)).mono ?_
      rintro e w1 ⟨rfl, hb1⟩
      have S := (S0.keep hb1).box #[.int .i64 A, .int .i64 B, .int .i64 C] 46
      simp only [List.nil_append, List.cons_append] at S
      clear c0 c1 c2 S0
      obtain ⟨c0, c1, c2⟩ := (S.blk 2 rfl).cell3
      go_wp2_with fail
      go_ret2
      exact retL_bad S.below

set_option maxHeartbeats 2000000 in
theorem sat_any (g : Gd) (A0 : Option Addr) (n c : Nat) (w : World) (hr : Rd w A0 n (g.bits.map Value.bool)) (hc : n ≤ c) :
    Calls Tryd.prog 8 #[.agg #[.int .i64 g.w, .int .i64 g.h, .slice A0 n c]] w (SatRet g w) := by
  have S0 := ((St.start w).addRd hr).box #[.int .i64 g.w, .int .i64 g.h, .slice A0 n c] 24
  simp only [List.nil_append, List.cons_append] at S0
  obtain ⟨c0, c1, c2⟩ := (S0.blk 1 rfl).cell3
  have HO := Lib.hid (fun W h => of_any g A0 n c W h hc)
  have hn : g.bits.length = n := by simpa using hr.len
  rcases ofG_cases g with ⟨ht, ho⟩ | ⟨a, b, A, B, C, bs, rfl, hk, ha1, ha, hb1, hb, hl, hA1, hA2, hB, hC1, hC2, ho⟩
  · have HQ := Lib.hid (satG_bad ho ht)
    rw [ho] at HO
    generalize chkG g = t at *
    have htb : (t != 0) = true := by simpa using ht
    clear ht ho
    go_enter Tryd.func8, Tryd.ntmps8
    go_wp2_with fail
    refine (HO.out _ (S0.rd 0 rfl)).mono ?_
    rintro e w1 ⟨rfl, hb1⟩
    have S := (S0.keep hb1).box #[.int .i64 0, .int .i64 0, .int .i64 0] 46
    simp only [List.nil_append, List.cons_append] at S
    clear c0 c1 c2 S0
    obtain ⟨c0, c1, c2⟩ := (S.blk 1 rfl).cell3
    obtain ⟨d0, d1, d2⟩ := (S.blk 2 rfl).cell3
    go_wp2_with fail
    refine bodyPost_ret (v := .tuple #[.int .i64 0, .int .i64 0, .bool false, .int .i64 t]) (by simp [results, Tryd.results8, go_sem]) rfl ?_
    exact ⟨by first | (rw [HQ.out]; done) | (rw [HQ.out]; rfl), S.below⟩
  · rw [ho] at HO
    have HNO := Lib.hid (fun h => satG_no ho h)
    have HYES := Lib.hid (fun (u : Bool) h1 h2 h3 h4 => satG_yes (u := u) ho h1 h2 h3 h4)
    simp only at hn HNO HYES
    have HP := part_frow hk hA1 hA2 hb1
    have HCT := countG_ok (chk_frow (bs := bs) hA1 (by omega : A ≤ 64))
    have HPA := Lib.hid (fun W h => part_any ⟨a, b, bs⟩ 0 0 (A : Int) 1 A0 n c W h)
    rw [HP] at HPA
    have HCA := Lib.hid (fun A' n' c' W h => count_any ⟨(A : Int), 1, frow bs A⟩ A' n' c' W h)
    rw [HCT] at HCA
    simp only at HPA HCA
    clear HP HCT
    have HM := Lib.hid (fun W => move_any (A : Int) (B : Int) W)
    have hu64 : ups (frow bs A) ≤ 64 := Nat.le_trans (ups_le _) (by simp [frow]; omega)
    generalize ups (frow bs A) = u at *
    generalize frow bs A = fr at *
    generalize moveB (A : Int) (B : Int) = mb at *
    clear hk ho hl
    by_cases hC : C = 1
    · have HC := Lib.hid hC
      have hC3 : ¬ 1 < (C : Int) := by omega
      have hC4 : ((C : Int) != 1) = false := by rw [hC]; rfl
      clear hC
      cases mb with
      | false =>
        go_enter Tryd.func8, Tryd.ntmps8
        go_wp2_with fail
        refine (HO.out _ (S0.rd 0 rfl)).mono ?_
        rintro e w1 ⟨rfl, hb1⟩
        have S := (S0.keep hb1).box #[.int .i64 A, .int .i64 B, .int .i64 C] 46
        simp only [List.nil_append, List.cons_append] at S
        clear c0 c1 c2 S0
        obtain ⟨c0, c1, c2⟩ := (S.blk 1 rfl).cell3
        obtain ⟨d0, d1, d2⟩ := (S.blk 2 rfl).cell3
        go_wp2_with fail
        refine (HPA.out _ (S.rd 0 rfl)).mono ?_
        rintro e w2 ⟨A2, n2, c2', rfl, hown2, hb2⟩
        simp only at hown2 ⊢
        have S2 := ((S.keep hb2).addRd (rd_of_own hown2)).box #[.int .i64 A, .int .i64 1, .slice A2 n2 c2'] 24
        simp only [List.nil_append, List.cons_append] at S2
        clear S c0 c1 c2 d0 d1 d2
        obtain ⟨c0, c1, c2⟩ := (S2.blk 4 rfl).cell3
        go_wp2_with fail
        refine (HCA.out _ _ _ _ (S2.rd 3 rfl)).mono ?_
        rintro e w3 ⟨rfl, hb3⟩
        have S := S2.keep hb3
        clear S2 c0 c1 c2
        obtain ⟨d0, d1, d2⟩ := (S.blk 2 rfl).cell3
        go_wp2_with fail
        refine (HM.out _).mono ?_
        rintro e w4 ⟨rfl, hb4⟩
        have S := S.keep hb4
        clear d0 d1 d2
        obtain ⟨d0, d1, d2⟩ := (S.blk 2 rfl).cell3
        go_wp2_with fail
        refine bodyPost_ret (v := .tuple #[.int .i64 0, .int .i64 0, .bool false, .int .i64 6]) (by simp [results, Tryd.results8, go_sem]) rfl ?_
        exact ⟨by first | (rw [HNO.out (by simp)]; done) | (rw [HNO.out (by simp)]; rfl), S.below⟩
      | true =>
        by_cases hu1 : u = 1
        · have HQ := Lib.hid (HYES.out true HC.out (by simp) (.inl hu1) (decide_eq_true hu1))
          subst hu1
          go_enter Tryd.func8, Tryd.ntmps8
          go_wp2_with fail
          refine (HO.out _ (S0.rd 0 rfl)).mono ?_
          rintro e w1 ⟨rfl, hb1⟩
          have S := (S0.keep hb1).box #[.int .i64 A, .int .i64 B, .int .i64 C] 46
          simp only [List.nil_append, List.cons_append] at S
          clear c0 c1 c2 S0
          obtain ⟨c0, c1, c2⟩ := (S.blk 1 rfl).cell3
          obtain ⟨d0, d1, d2⟩ := (S.blk 2 rfl).cell3
          go_wp2_with fail
          refine (HPA.out _ (S.rd 0 rfl)).mono ?_
          rintro e w2 ⟨A2, n2, c2', rfl, hown2, hb2⟩
          simp only at hown2 ⊢
          have S2 := ((S.keep hb2).addRd (rd_of_own hown2)).box #[.int .i64 A, .int .i64 1, .slice A2 n2 c2'] 24
          simp only [List.nil_append, List.cons_append] at S2
          clear S c0 c1 c2 d0 d1 d2
          obtain ⟨c0, c1, c2⟩ := (S2.blk 4 rfl).cell3
          go_wp2_with fail
          refine (HCA.out _ _ _ _ (S2.rd 3 rfl)).mono ?_
          rintro e w3 ⟨rfl, hb3⟩
          have S := S2.keep hb3
          clear S2 c0 c1 c2
          obtain ⟨d0, d1, d2⟩ := (S.blk 2 rfl).cell3
          go_wp2_with fail
          refine (HM.out _).mono ?_
          rintro e w4 ⟨rfl, hb4⟩
          have S := S.keep hb4
          clear d0 d1 d2
          obtain ⟨d0, d1, d2⟩ := (S.blk 2 rfl).cell3
          go_wp2_with fail
          go_quiet (fail)
          go_wp2_with fail
          have S := S.drewN nq
          refine bodyPost_ret (v := .tuple #[.int .i64 A, .int .i64 B, .bool true, .int .i64 0]) (by simp [results, Tryd.results8, go_sem]) rfl ?_
          exact ⟨by first | (rw [HQ.out]; done) | (rw [HQ.out]; rfl), S.below⟩
        by_cases hu2 : (u : Int) = (A : Int) - 1
        · have HQ := Lib.hid (HYES.out false HC.out (by simp) (.inr hu2) (decide_eq_false hu1))
          have hu4 : ((u : Int) != 1) = true := by simp; omega
          have hu5 : ((u : Int) != (A : Int) - 1) = false := by simp [hu2]
          have hu6 : ((u : Int) == 1) = false := by simp; omega
          clear hu1 hu2
          go_enter Tryd.func8, Tryd.ntmps8
          go_wp2_with fail
          refine (HO.out _ (S0.rd 0 rfl)).mono ?_
          rintro e w1 ⟨rfl, hb1⟩
          have S := (S0.keep hb1).box #[.int .i64 A, .int .i64 B, .int .i64 C] 46
          simp only [List.nil_append, List.cons_append] at S
          clear c0 c1 c2 S0
          obtain ⟨c0, c1, c2⟩ := (S.blk 1 rfl).cell3
          obtain ⟨d0, d1, d2⟩ := (S.blk 2 rfl).cell3
          go_wp2_with fail
          refine (HPA.out _ (S.rd 0 rfl)).mono ?_
          rintro e w2 ⟨A2, n2, c2', rfl, hown2, hb2⟩
          simp only at hown2 ⊢
          have S2 := ((S.keep hb2).addRd (rd_of_own hown2)).box #[.int .i64 A, .int .i64 1, .slice A2 n2 c2'] 24
          simp only [List.nil_append, List.cons_append] at S2
          clear S c0 c1 c2 d0 d1 d2
          obtain ⟨c0, c1, c2⟩ := (S2.blk 4 rfl).cell3
          go_wp2_with fail
          refine (HCA.out _ _ _ _ (S2.rd 3 rfl)).mono ?_
          rintro e w3 ⟨rfl, hb3⟩
          have S := S2.keep hb3
          clear S2 c0 c1 c2
          obtain ⟨d0, d1, d2⟩ := (S.blk 2 rfl).cell3
          go_wp2_with fail
          refine (HM.out _).mono ?_
          rintro e w4 ⟨rfl, hb4⟩
          have S := S.keep hb4
          clear d0 d1 d2
          obtain ⟨d0, d1, d2⟩ := (S.blk 2 rfl).cell3
          go_wp2_with fail
          go_quiet (fail)
          go_wp2_with fail
          have S := S.drewN nq
          refine bodyPost_ret (v := .tuple #[.int .i64 A, .int .i64 B, .bool false, .int .i64 0]) (by simp [results, Tryd.results8, go_sem]) rfl ?_
          exact ⟨by first | (rw [HQ.out]; done) | (rw [HQ.out]; rfl), S.below⟩
        have HQ := Lib.hid (HNO.out (.inr (.inr ⟨hu1, hu2⟩)))
        have hu4 : ((u : Int) != 1) = true := by simp; omega
        have hu5 : ((u : Int) != (A : Int) - 1) = true := by simpa using hu2
        clear hu1 hu2
        go_enter Tryd.func8, Tryd.ntmps8
        go_wp2_with fail
        refine (HO.out _ (S0.rd 0 rfl)).mono ?_
        rintro e w1 ⟨rfl, hb1⟩
        have S := (S0.keep hb1).box #[.int .i64 A, .int .i64 B, .int .i64 C] 46
        simp only [List.nil_append, List.cons_append] at S
        clear c0 c1 c2 S0
        obtain ⟨c0, c1, c2⟩ := (S.blk 1 rfl).cell3
        obtain ⟨d0, d1, d2⟩ := (S.blk 2 rfl).cell3
        go_wp2_with fail
        refine (HPA.out _ (S.rd 0 rfl)).mono ?_
        rintro e w2 ⟨A2, n2, c2', rfl, hown2, hb2⟩
        simp only at hown2 ⊢
        have S2 := ((S.keep hb2).addRd (rd_of_own hown2)).box #[.int .i64 A, .int .i64 1, .slice A2 n2 c2'] 24
        simp only [List.nil_append, List.cons_append] at S2
        clear S c0 c1 c2 d0 d1 d2
        obtain ⟨c0, c1, c2⟩ := (S2.blk 4 rfl).cell3
        go_wp2_with fail
        refine (HCA.out _ _ _ _ (S2.rd 3 rfl)).mono ?_
        rintro e w3 ⟨rfl, hb3⟩
        have S := S2.keep hb3
        clear S2 c0 c1 c2
        obtain ⟨d0, d1, d2⟩ := (S.blk 2 rfl).cell3
        go_wp2_with fail
        refine (HM.out _).mono ?_
        rintro e w4 ⟨rfl, hb4⟩
        have S := S.keep hb4
        clear d0 d1 d2
        obtain ⟨d0, d1, d2⟩ := (S.blk 2 rfl).cell3
        go_wp2_with fail
        refine bodyPost_ret (v := .tuple #[.int .i64 0, .int .i64 0, .bool false, .int .i64 6]) (by simp [results, Tryd.results8, go_sem]) rfl ?_
        exact ⟨by first | (rw [HQ.out]; done) | (rw [HQ.out]; rfl), S.below⟩
    · have hC9 := hC
      have hC3 : 1 < (C : Int) := by omega
      go_enter Tryd.func8, Tryd.ntmps8
      go_wp2_with fail
      refine (HO.out _ (S0.rd 0 rfl)).mono ?_
      rintro e w1 ⟨rfl, hb1⟩
      have S := (S0.keep hb1).box #[.int .i64 A, .int .i64 B, .int .i64 C] 46
      simp only [List.nil_append, List.cons_append] at S
      clear c0 c1 c2 S0
      obtain ⟨c0, c1, c2⟩ := (S.blk 1 rfl).cell3
      obtain ⟨d0, d1, d2⟩ := (S.blk 2 rfl).cell3
      go_wp2_with fail
      refine (HPA.out _ (S.rd 0 rfl)).mono ?_
      rintro e w2 ⟨A2, n2, c2', rfl, hown2, hb2⟩
      simp only at hown2 ⊢
      have S2 := ((S.keep hb2).addRd (rd_of_own hown2)).box #[.int .i64 A, .int .i64 1, .slice A2 n2 c2'] 24
      simp only [List.nil_append, List.cons_append] at S2
      clear S c0 c1 c2 d0 d1 d2
      obtain ⟨c0, c1, c2⟩ := (S2.blk 4 rfl).cell3
      go_wp2_with fail
      refine (HCA.out _ _ _ _ (S2.rd 3 rfl)).mono ?_
      rintro e w3 ⟨rfl, hb3⟩
      have S := S2.keep hb3
      clear S2 c0 c1 c2
      obtain ⟨d0, d1, d2⟩ := (S.blk 2 rfl).cell3
      go_wp2_with fail
      refine bodyPost_ret (v := .tuple #[.int .i64 0, .int .i64 0, .bool false, .int .i64 6]) (by simp [results, Tryd.results8, go_sem]) rfl ?_
      exact ⟨by first | (rw [HNO.out (.inl hC9)]; done) | (rw [HNO.out (.inl hC9)]; rfl), S.below⟩
end Go.Proofs.YtbgekiifffnalaaDoor
