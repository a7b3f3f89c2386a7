/- picture.threads and raddleref15.Threads: the error of an image with threads. -/
import Derived.Test.YtmajmbfbnchbfaaMg13z
import Derived.Test.YtmajmbfbnchbfaaConcatz
import Derived.Test.YtmajmbfbnchbfaaImCkz
import Derived.Test.YtmajmbfbnchbfaaFinez
namespace Go.Proofs.Ytmajmbfbnchbfaa
open Go.RowKit

theorem thrI_cases (m : Im) (p q : List Int) :
    (chkI m ≠ 0 ∧ thrI m p q = chkI m) ∨ (chkI m = 0 ∧ (p.length : Int) ≠ m.w ∧ thrI m p q = 26) ∨ (chkI m = 0 ∧ (p.length : Int) = m.w ∧ (q.length : Int) ≠ m.h ∧ thrI m p q = 26) ∨
    (chkI m = 0 ∧ (p.length : Int) = m.w ∧ (q.length : Int) = m.h ∧ fineL p = false ∧ thrI m p q = 8) ∨
    (chkI m = 0 ∧ (p.length : Int) = m.w ∧ (q.length : Int) = m.h ∧ fineL p = true ∧ fineL q = false ∧ thrI m p q = 8) ∨
    (chkI m = 0 ∧ (p.length : Int) = m.w ∧ (q.length : Int) = m.h ∧ fineL p = true ∧ fineL q = true ∧ thrI m p q = 0) := by
  by_cases h0 : chkI m = 0
  · by_cases h1 : (p.length : Int) = m.w
    · by_cases h2 : (q.length : Int) = m.h
      · cases hp : fineL p
        · exact .inr (.inr (.inr (.inl ⟨h0, h1, h2, rfl, thrI_three h0 h1 h2 (.inl hp)⟩)))
        · cases hq : fineL q
          · exact .inr (.inr (.inr (.inr (.inl ⟨h0, h1, h2, rfl, rfl, thrI_three h0 h1 h2 (.inr hq)⟩))))
          · exact .inr (.inr (.inr (.inr (.inr ⟨h0, h1, h2, rfl, rfl, thrI_ok h0 h1 h2 hp hq⟩))))
      · exact .inr (.inr (.inl ⟨h0, h1, h2, thrI_two h0 (.inr h2)⟩))
    · exact .inr (.inl ⟨h0, h1, thrI_two h0 (.inl h1)⟩)
  · exact .inl ⟨h0, by rw [thrI_one h0, chkI_ne h0]⟩
theorem fineL_app (p q : List Int) : fineL (p ++ q) = (fineL p && fineL q) := by unfold fineL; rw [List.all_append]

set_option maxHeartbeats 2000000 in
theorem thrI_any (m : Im) (p q : List Int) (A Ap Aq : Option Addr) (n c np cp nq cq : Nat) (w : World) (hr : Rd w A n (m.c.map (Value.int .i64))) (hn : n ≤ 1048576) (hrp : Rd w Ap np (p.map (Value.int .i64))) (hrq : Rd w Aq nq (q.map (Value.int .i64))) :
    Calls Try.prog 29 #[.agg #[.int .i64 m.w, .int .i64 m.h, .slice A n c], .slice Ap np cp, .slice Aq nq cq] w fun e w' => e = .returned (.int .i64 (thrI m p q)) ∧ Below w.heap.size w w' := by
  have lp : p.length = np := by simpa using hrp.len
  have lq : q.length = nq := by simpa using hrq.len
  have hcs := thrI_cases m p q
  have hch := fun h => chkI_zero (m := m) h
  have HC := Lib.hid (fun WW h => checkI_any m A n c WW h hn)
  simp only [lp, lq] at hcs
  have S0 := ((((St.start w).addRd hr).addRd hrp).addRd hrq).box #[.int .i64 m.w, .int .i64 m.h, .slice A n c] 36
  simp only [List.nil_append, List.cons_append] at S0
  obtain ⟨c0, c1, c2⟩ := (S0.blk 3 rfl).cell3
  clear lp lq hr hrp hrq
  generalize chkI m = ci at *
  generalize thrI m p q = ti at *
  rcases hcs with ⟨h0, h⟩ | ⟨h0, h1, h⟩ | ⟨h0, h1, h2, h⟩ | ⟨h0, h1, h2, h3, h⟩ | ⟨h0, h1, h2, h3, h4, h⟩ | ⟨h0, h1, h2, h3, h4, h⟩
  · have k0 : (ci != 0) = true := by simpa using h0
    have HH := Lib.hid h
    clear h h0
    go_enter Try.func29, Try.ntmps29
    go_wp2_with fail
    refine (HC.out _ (S0.rd 0 rfl)).mono ?_
    rintro e w1 ⟨rfl, hb1⟩
    have S := S0.keep hb1
    clear S0 c0 c1 c2
    obtain ⟨c0, c1, c2⟩ := (S.blk 3 rfl).cell3
    go_wp2_with fail
    go_ret
    exact ⟨by rw [HH.out]; rfl, S.below⟩
  · have k0 : (ci != 0) = false := by simpa using h0
    have k1 : ((np : Int) != m.w) = true := by simpa using h1
    have HH := Lib.hid h
    clear h h0 h1
    go_enter Try.func29, Try.ntmps29
    go_wp2_with fail
    refine (HC.out _ (S0.rd 0 rfl)).mono ?_
    rintro e w1 ⟨rfl, hb1⟩
    have S := S0.keep hb1
    clear S0 c0 c1 c2
    obtain ⟨c0, c1, c2⟩ := (S.blk 3 rfl).cell3
    go_wp2_with fail
    go_ret
    exact ⟨by rw [HH.out]; rfl, S.below⟩
  · have k0 : (ci != 0) = false := by simpa using h0
    have k1 : ((np : Int) != m.w) = false := by simpa using h1
    have k2 : ((nq : Int) != m.h) = true := by simpa using h2
    have HH := Lib.hid h
    clear h h0 h1 h2
    go_enter Try.func29, Try.ntmps29
    go_wp2_with fail
    refine (HC.out _ (S0.rd 0 rfl)).mono ?_
    rintro e w1 ⟨rfl, hb1⟩
    have S := S0.keep hb1
    clear S0 c0 c1 c2
    obtain ⟨c0, c1, c2⟩ := (S.blk 3 rfl).cell3
    go_wp2_with fail
    go_ret
    exact ⟨by rw [HH.out]; rfl, S.below⟩
  · obtain ⟨a, b, hw, hh, ha1, ha, hb1', hb, _, _⟩ := hch h0
    have z1 : np ≤ 64 := by omega
    have z2 : nq ≤ 64 := by omega
    have z3 : 1 ≤ np := by omega
    clear hw hh ha1 ha hb1' hb
    have k0 : (ci != 0) = false := by simpa using h0
    have k1 : ((np : Int) != m.w) = false := by simpa using h1
    have k2 : ((nq : Int) != m.h) = false := by simpa using h2
    have HH := Lib.hid h
    have h3' := Lib.hid h3
    clear h3
    clear h h0 h1 h2
    go_enter Try.func29, Try.ntmps29
    go_wp2_with fail
    refine (HC.out _ (S0.rd 0 rfl)).mono ?_
    rintro e w1 ⟨rfl, hb1⟩
    have S := S0.keep hb1
    clear S0 c0 c1 c2
    obtain ⟨c0, c1, c2⟩ := (S.blk 3 rfl).cell3
    go_wp2_with fail
    have SB := S.box #[.slice Ap np cp, .slice Aq nq cq] 22
    simp only [List.nil_append, List.cons_append] at SB
    refine (concat_any _ np nq p q Ap Aq cp cq _ (SB.blk 4 rfl) (SB.rd 1 rfl) (SB.rd 2 rfl) z3 (by omega) (by omega)).mono ?_
    rintro e w3 ⟨A3, n3, c3, rfl, hown3, hb3⟩
    have S3 := (SB.keep hb3).addRd (rd_of_own hown3)
    simp only [List.nil_append, List.cons_append] at S3
    have hl3 : (p ++ q).length = n3 := by simpa using hown3.1
    have hn3 : n3 ≤ 128 := by have := hown3.1; have h5 := (SB.rd 1 rfl).len; have h6 := (SB.rd 2 rfl).len; simp at this h5 h6; omega
    clear c0 c1 c2 S SB hown3
    have HL3 := Lib.hid hl3
    clear hl3
    go_wp2_with fail
    go_loopw [32] (fun i wr => wr = w3 ∧ ∃ k : Nat, k ≤ n3 ∧ i = .int .i64 k ∧ fineL ((p ++ q).take k) = true) (fun i _ => n3 - (intOf i).toNat)
    case atStart => exact ⟨rfl, 0, Nat.zero_le _, rfl, rfl⟩
    case round =>
      obtain ⟨rfl, k, hk, rfl, hfk⟩ := hrel
      have HFK := Lib.hid hfk
      clear hfk
      by_cases hlt : k < n3
      · obtain ⟨bl, o, hA, _, hcell⟩ := (S3.rd 5 rfl).at_ (by omega)
        have hll : k < (p ++ q).length := by have := HL3.out; omega
        have g0 := hcell k (.int .i64 ((p ++ q).getD k 0)) (by rw [List.getElem?_map, get_d hll]; rfl)
        have HGD := Lib.hid (get_d hll)
        rw [hA]
        clear hcell hA
        generalize (p ++ q).getD k 0 = z at *
        by_cases hz1 : z < 0
        · have HB := Lib.hid (fineL_not HGD.out (.inl hz1))
          go_wp2_with fail
          go_ret
          exact ⟨by rw [HH.out]; rfl, S3.below⟩
        by_cases hz2 : 15 < z
        · have HB := Lib.hid (fineL_not HGD.out (.inr hz2))
          go_wp2_with fail
          go_ret
          exact ⟨by rw [HH.out]; rfl, S3.below⟩
        have HB := Lib.hid (fineL_take HFK.out HGD.out (by omega) (by omega))
        go_wp2_with fail
        go_roundw
        case rel => exact ⟨by trivial, k + 1, by omega, by go_num, HB.out⟩
        case measure => simp [intOf]; omega
      · have hT : (p ++ q).take k = p ++ q := List.take_of_length_le (by have := HL3.out; omega)
        have HB := HFK
        rw [hT] at HB
        go_wp2_with fail
        exact absurd HB.out (by rw [fineL_app, h3'.out]; simp)
  · obtain ⟨a, b, hw, hh, ha1, ha, hb1', hb, _, _⟩ := hch h0
    have z1 : np ≤ 64 := by omega
    have z2 : nq ≤ 64 := by omega
    have z3 : 1 ≤ np := by omega
    clear hw hh ha1 ha hb1' hb
    have k0 : (ci != 0) = false := by simpa using h0
    have k1 : ((np : Int) != m.w) = false := by simpa using h1
    have k2 : ((nq : Int) != m.h) = false := by simpa using h2
    have HH := Lib.hid h
    have h3' := Lib.hid h3
    have h4' := Lib.hid h4
    clear h3 h4
    clear h h0 h1 h2
    go_enter Try.func29, Try.ntmps29
    go_wp2_with fail
    refine (HC.out _ (S0.rd 0 rfl)).mono ?_
    rintro e w1 ⟨rfl, hb1⟩
    have S := S0.keep hb1
    clear S0 c0 c1 c2
    obtain ⟨c0, c1, c2⟩ := (S.blk 3 rfl).cell3
    go_wp2_with fail
    have SB := S.box #[.slice Ap np cp, .slice Aq nq cq] 22
    simp only [List.nil_append, List.cons_append] at SB
    refine (concat_any _ np nq p q Ap Aq cp cq _ (SB.blk 4 rfl) (SB.rd 1 rfl) (SB.rd 2 rfl) z3 (by omega) (by omega)).mono ?_
    rintro e w3 ⟨A3, n3, c3, rfl, hown3, hb3⟩
    have S3 := (SB.keep hb3).addRd (rd_of_own hown3)
    simp only [List.nil_append, List.cons_append] at S3
    have hl3 : (p ++ q).length = n3 := by simpa using hown3.1
    have hn3 : n3 ≤ 128 := by have := hown3.1; have h5 := (SB.rd 1 rfl).len; have h6 := (SB.rd 2 rfl).len; simp at this h5 h6; omega
    clear c0 c1 c2 S SB hown3
    have HL3 := Lib.hid hl3
    clear hl3
    go_wp2_with fail
    go_loopw [32] (fun i wr => wr = w3 ∧ ∃ k : Nat, k ≤ n3 ∧ i = .int .i64 k ∧ fineL ((p ++ q).take k) = true) (fun i _ => n3 - (intOf i).toNat)
    case atStart => exact ⟨rfl, 0, Nat.zero_le _, rfl, rfl⟩
    case round =>
      obtain ⟨rfl, k, hk, rfl, hfk⟩ := hrel
      have HFK := Lib.hid hfk
      clear hfk
      by_cases hlt : k < n3
      · obtain ⟨bl, o, hA, _, hcell⟩ := (S3.rd 5 rfl).at_ (by omega)
        have hll : k < (p ++ q).length := by have := HL3.out; omega
        have g0 := hcell k (.int .i64 ((p ++ q).getD k 0)) (by rw [List.getElem?_map, get_d hll]; rfl)
        have HGD := Lib.hid (get_d hll)
        rw [hA]
        clear hcell hA
        generalize (p ++ q).getD k 0 = z at *
        by_cases hz1 : z < 0
        · have HB := Lib.hid (fineL_not HGD.out (.inl hz1))
          go_wp2_with fail
          go_ret
          exact ⟨by rw [HH.out]; rfl, S3.below⟩
        by_cases hz2 : 15 < z
        · have HB := Lib.hid (fineL_not HGD.out (.inr hz2))
          go_wp2_with fail
          go_ret
          exact ⟨by rw [HH.out]; rfl, S3.below⟩
        have HB := Lib.hid (fineL_take HFK.out HGD.out (by omega) (by omega))
        go_wp2_with fail
        go_roundw
        case rel => exact ⟨by trivial, k + 1, by omega, by go_num, HB.out⟩
        case measure => simp [intOf]; omega
      · have hT : (p ++ q).take k = p ++ q := List.take_of_length_le (by have := HL3.out; omega)
        have HB := HFK
        rw [hT] at HB
        go_wp2_with fail
        exact absurd HB.out (by rw [fineL_app, h3'.out, h4'.out]; simp)
  · obtain ⟨a, b, hw, hh, ha1, ha, hb1', hb, _, _⟩ := hch h0
    have z1 : np ≤ 64 := by omega
    have z2 : nq ≤ 64 := by omega
    have z3 : 1 ≤ np := by omega
    clear hw hh ha1 ha hb1' hb
    have k0 : (ci != 0) = false := by simpa using h0
    have k1 : ((np : Int) != m.w) = false := by simpa using h1
    have k2 : ((nq : Int) != m.h) = false := by simpa using h2
    have HH := Lib.hid h
    have h3' := Lib.hid h3
    have h4' := Lib.hid h4
    clear h3 h4
    clear h h0 h1 h2
    go_enter Try.func29, Try.ntmps29
    go_wp2_with fail
    refine (HC.out _ (S0.rd 0 rfl)).mono ?_
    rintro e w1 ⟨rfl, hb1⟩
    have S := S0.keep hb1
    clear S0 c0 c1 c2
    obtain ⟨c0, c1, c2⟩ := (S.blk 3 rfl).cell3
    go_wp2_with fail
    have SB := S.box #[.slice Ap np cp, .slice Aq nq cq] 22
    simp only [List.nil_append, List.cons_append] at SB
    refine (concat_any _ np nq p q Ap Aq cp cq _ (SB.blk 4 rfl) (SB.rd 1 rfl) (SB.rd 2 rfl) z3 (by omega) (by omega)).mono ?_
    rintro e w3 ⟨A3, n3, c3, rfl, hown3, hb3⟩
    have S3 := (SB.keep hb3).addRd (rd_of_own hown3)
    simp only [List.nil_append, List.cons_append] at S3
    have hl3 : (p ++ q).length = n3 := by simpa using hown3.1
    have hn3 : n3 ≤ 128 := by have := hown3.1; have h5 := (SB.rd 1 rfl).len; have h6 := (SB.rd 2 rfl).len; simp at this h5 h6; omega
    clear c0 c1 c2 S SB hown3
    have HL3 := Lib.hid hl3
    clear hl3
    go_wp2_with fail
    go_loopw [32] (fun i wr => wr = w3 ∧ ∃ k : Nat, k ≤ n3 ∧ i = .int .i64 k ∧ fineL ((p ++ q).take k) = true) (fun i _ => n3 - (intOf i).toNat)
    case atStart => exact ⟨rfl, 0, Nat.zero_le _, rfl, rfl⟩
    case round =>
      obtain ⟨rfl, k, hk, rfl, hfk⟩ := hrel
      have HFK := Lib.hid hfk
      clear hfk
      by_cases hlt : k < n3
      · obtain ⟨bl, o, hA, _, hcell⟩ := (S3.rd 5 rfl).at_ (by omega)
        have hll : k < (p ++ q).length := by have := HL3.out; omega
        have g0 := hcell k (.int .i64 ((p ++ q).getD k 0)) (by rw [List.getElem?_map, get_d hll]; rfl)
        have HGD := Lib.hid (get_d hll)
        rw [hA]
        clear hcell hA
        generalize (p ++ q).getD k 0 = z at *
        by_cases hz1 : z < 0
        · have HB := Lib.hid (fineL_not HGD.out (.inl hz1))
          go_wp2_with fail
          exact absurd HB.out (by rw [fineL_app, h3'.out, h4'.out]; simp)
        by_cases hz2 : 15 < z
        · have HB := Lib.hid (fineL_not HGD.out (.inr hz2))
          go_wp2_with fail
          exact absurd HB.out (by rw [fineL_app, h3'.out, h4'.out]; simp)
        have HB := Lib.hid (fineL_take HFK.out HGD.out (by omega) (by omega))
        go_wp2_with fail
        go_roundw
        case rel => exact ⟨by trivial, k + 1, by omega, by go_num, HB.out⟩
        case measure => simp [intOf]; omega
      · have hT : (p ++ q).take k = p ++ q := List.take_of_length_le (by have := HL3.out; omega)
        have HB := HFK
        rw [hT] at HB
        go_wp2_with fail
        go_ret
        exact ⟨by rw [HH.out]; rfl, S3.below⟩

set_option maxHeartbeats 2000000 in
theorem rthrI_any (m : Im) (p q : List Int) (A Ap Aq : Option Addr) (n c np cp nq cq : Nat) (w : World) (hr : Rd w A n (m.c.map (Value.int .i64))) (hn : n ≤ 1048576) (hrp : Rd w Ap np (p.map (Value.int .i64))) (hrq : Rd w Aq nq (q.map (Value.int .i64))) :
    Calls Try.prog 14 #[.agg #[.int .i64 m.w, .int .i64 m.h, .slice A n c], .slice Ap np cp, .slice Aq nq cq] w fun e w' => e = .returned (.int .i64 (thrI m p q)) ∧ Below w.heap.size w w' := by
  have lp : p.length = np := by simpa using hrp.len
  have lq : q.length = nq := by simpa using hrq.len
  have hcs := thrI_cases m p q
  have hch := fun h => chkI_zero (m := m) h
  have HC := Lib.hid (fun WW h => rcheckI_any m A n c WW h hn)
  simp only [lp, lq] at hcs
  have S0 := ((((St.start w).addRd hr).addRd hrp).addRd hrq).box #[.int .i64 m.w, .int .i64 m.h, .slice A n c] 36
  simp only [List.nil_append, List.cons_append] at S0
  obtain ⟨c0, c1, c2⟩ := (S0.blk 3 rfl).cell3
  clear lp lq hr hrp hrq
  generalize chkI m = ci at *
  generalize thrI m p q = ti at *
  rcases hcs with ⟨h0, h⟩ | ⟨h0, h1, h⟩ | ⟨h0, h1, h2, h⟩ | ⟨h0, h1, h2, h3, h⟩ | ⟨h0, h1, h2, h3, h4, h⟩ | ⟨h0, h1, h2, h3, h4, h⟩
  · have k0 : (ci != 0) = true := by simpa using h0
    have HH := Lib.hid h
    clear h h0
    go_enter Try.func14, Try.ntmps14
    go_wp2_with fail
    refine (HC.out _ (S0.rd 0 rfl)).mono ?_
    rintro e w1 ⟨rfl, hb1⟩
    have S := S0.keep hb1
    clear S0 c0 c1 c2
    obtain ⟨c0, c1, c2⟩ := (S.blk 3 rfl).cell3
    go_wp2_with fail
    refine (HC.out _ (S.rd 0 rfl)).mono ?_
    rintro e w2 ⟨rfl, hb2⟩
    have S := S.keep hb2
    go_wp2_with fail
    go_ret
    exact ⟨by rw [HH.out]; rfl, S.below⟩
  · have k0 : (ci != 0) = false := by simpa using h0
    have k1 : ((np : Int) != m.w) = true := by simpa using h1
    have HH := Lib.hid h
    clear h h0 h1
    go_enter Try.func14, Try.ntmps14
    go_wp2_with fail
    refine (HC.out _ (S0.rd 0 rfl)).mono ?_
    rintro e w1 ⟨rfl, hb1⟩
    have S := S0.keep hb1
    clear S0 c0 c1 c2
    obtain ⟨c0, c1, c2⟩ := (S.blk 3 rfl).cell3
    go_wp2_with fail
    go_ret
    exact ⟨by rw [HH.out]; rfl, S.below⟩
  · have k0 : (ci != 0) = false := by simpa using h0
    have k1 : ((np : Int) != m.w) = false := by simpa using h1
    have k2 : ((nq : Int) != m.h) = true := by simpa using h2
    have HH := Lib.hid h
    clear h h0 h1 h2
    go_enter Try.func14, Try.ntmps14
    go_wp2_with fail
    refine (HC.out _ (S0.rd 0 rfl)).mono ?_
    rintro e w1 ⟨rfl, hb1⟩
    have S := S0.keep hb1
    clear S0 c0 c1 c2
    obtain ⟨c0, c1, c2⟩ := (S.blk 3 rfl).cell3
    go_wp2_with fail
    go_ret
    exact ⟨by rw [HH.out]; rfl, S.below⟩
  · obtain ⟨a, b, hw, hh, ha1, ha, hb1', hb, _, _⟩ := hch h0
    have z1 : np ≤ 64 := by omega
    have z2 : nq ≤ 64 := by omega
    have z3 : 1 ≤ np := by omega
    clear hw hh ha1 ha hb1' hb
    have k0 : (ci != 0) = false := by simpa using h0
    have k1 : ((np : Int) != m.w) = false := by simpa using h1
    have k2 : ((nq : Int) != m.h) = false := by simpa using h2
    have HH := Lib.hid h
    clear h h0 h1 h2
    go_enter Try.func14, Try.ntmps14
    go_wp2_with fail
    refine (HC.out _ (S0.rd 0 rfl)).mono ?_
    rintro e w1 ⟨rfl, hb1⟩
    have S := S0.keep hb1
    clear S0 c0 c1 c2
    obtain ⟨c0, c1, c2⟩ := (S.blk 3 rfl).cell3
    go_wp2_with fail
    refine (rfine_any p _ _ _ _ (S.rd 1 rfl) (by omega)).mono ?_
    rintro e w3 ⟨rfl, hb3⟩
    have S := S.keep hb3
    rw [h3]
    go_wp2_with fail
    go_ret
    exact ⟨by rw [HH.out]; rfl, S.below⟩
  · obtain ⟨a, b, hw, hh, ha1, ha, hb1', hb, _, _⟩ := hch h0
    have z1 : np ≤ 64 := by omega
    have z2 : nq ≤ 64 := by omega
    have z3 : 1 ≤ np := by omega
    clear hw hh ha1 ha hb1' hb
    have k0 : (ci != 0) = false := by simpa using h0
    have k1 : ((np : Int) != m.w) = false := by simpa using h1
    have k2 : ((nq : Int) != m.h) = false := by simpa using h2
    have HH := Lib.hid h
    clear h h0 h1 h2
    go_enter Try.func14, Try.ntmps14
    go_wp2_with fail
    refine (HC.out _ (S0.rd 0 rfl)).mono ?_
    rintro e w1 ⟨rfl, hb1⟩
    have S := S0.keep hb1
    clear S0 c0 c1 c2
    obtain ⟨c0, c1, c2⟩ := (S.blk 3 rfl).cell3
    go_wp2_with fail
    refine (rfine_any p _ _ _ _ (S.rd 1 rfl) (by omega)).mono ?_
    rintro e w3 ⟨rfl, hb3⟩
    have S := S.keep hb3
    rw [h3]
    go_wp2_with fail
    refine (rfine_any q _ _ _ _ (S.rd 2 rfl) (by omega)).mono ?_
    rintro e w4 ⟨rfl, hb4⟩
    have S := S.keep hb4
    rw [h4]
    go_wp2_with fail
    go_ret
    exact ⟨by rw [HH.out]; rfl, S.below⟩
  · obtain ⟨a, b, hw, hh, ha1, ha, hb1', hb, _, _⟩ := hch h0
    have z1 : np ≤ 64 := by omega
    have z2 : nq ≤ 64 := by omega
    have z3 : 1 ≤ np := by omega
    clear hw hh ha1 ha hb1' hb
    have k0 : (ci != 0) = false := by simpa using h0
    have k1 : ((np : Int) != m.w) = false := by simpa using h1
    have k2 : ((nq : Int) != m.h) = false := by simpa using h2
    have HH := Lib.hid h
    clear h h0 h1 h2
    go_enter Try.func14, Try.ntmps14
    go_wp2_with fail
    refine (HC.out _ (S0.rd 0 rfl)).mono ?_
    rintro e w1 ⟨rfl, hb1⟩
    have S := S0.keep hb1
    clear S0 c0 c1 c2
    obtain ⟨c0, c1, c2⟩ := (S.blk 3 rfl).cell3
    go_wp2_with fail
    refine (rfine_any p _ _ _ _ (S.rd 1 rfl) (by omega)).mono ?_
    rintro e w3 ⟨rfl, hb3⟩
    have S := S.keep hb3
    rw [h3]
    go_wp2_with fail
    refine (rfine_any q _ _ _ _ (S.rd 2 rfl) (by omega)).mono ?_
    rintro e w4 ⟨rfl, hb4⟩
    have S := S.keep hb4
    rw [h4]
    go_wp2_with fail
    go_ret
    exact ⟨by rw [HH.out]; rfl, S.below⟩
end Go.Proofs.Ytmajmbfbnchbfaa
