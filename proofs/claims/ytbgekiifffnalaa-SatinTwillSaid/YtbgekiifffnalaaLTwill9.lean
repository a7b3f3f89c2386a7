/- The law SatinTwill, walked: it answers true and turns nothing that was there, for any runs and step. -/
import Derived.Test.YtbgekiifffnalaaAlive9
import Derived.Test.YtbgekiifffnalaaTwQ
import Derived.Test.YtbgekiifffnalaaRTwill
import Derived.Test.YtbgekiifffnalaaSat9
import Derived.Test.YtbgekiifffnalaaIs
import Derived.Test.YtbgekiifffnalaaLSameQ
namespace Go.Proofs.Ytbgekiifffnalaa
open Go.RowKit

theorem at_zero {n s y : Nat} (hn : 1 ≤ n) (h1 : 1 ≤ y) (h2 : y < twH n s) : ¬ s * y % n = 0 := by
  rw [tw_dvd hn]
  intro h
  have := Nat.le_of_dvd (by omega) h
  omega
theorem end_zero {n s : Nat} (hn : 1 ≤ n) : s * twH n s % n = 0 := (tw_dvd hn).2 (Nat.dvd_refl _)
theorem tw_at {L : List Bool} {n s x y : Nat} (hL : L.length = n) (hn : 1 ≤ n) (hx : x < n) (hy : y < twH n s) {k : Nat} (hk : ((x : Int) - ((s * y % n : Nat) : Int)) % (n : Int) = (k : Int)) :
    (Pl.tab n (twH n s) (twF L s)).getD (y * n + x) false = L.getD k false ∧ (Pl.tab n (twH n s) (twF L s)).getD k false = L.getD k false := by
  have hkn : k < n := by have := Int.emod_lt_of_pos ((x : Int) - ((s * y % n : Nat) : Int)) (show 0 < (n : Int) by omega); omega
  constructor
  · rw [List.getD_eq_getElem?_getD, Pl.tab_get hx hy]
    unfold twF
    rw [hL]
    have e : ((x : Int) - (s : Int) * (y : Int)) % (n : Int) = (k : Int) := by
      rw [← hk]
      have := Nat.div_add_mod (s * y) n
      have h2 : (s : Int) * (y : Int) = (n : Int) * ((s * y / n : Nat) : Int) + ((s * y % n : Nat) : Int) := by rw [← Int.natCast_mul, ← Int.natCast_mul, ← Int.natCast_add, this]
      rw [h2, show (x : Int) - ((n : Int) * ((s * y / n : Nat) : Int) + ((s * y % n : Nat) : Int)) = ((x : Int) - ((s * y % n : Nat) : Int)) + (n : Int) * (-((s * y / n : Nat) : Int)) by rw [Int.mul_neg]; omega, Int.add_mul_emod_self_left]
    rw [e, Int.toNat_natCast]
    rfl
  · have h1 := tw_row0 (s := s) hL hn
    rw [← congrArg (fun l => l.getD k false) h1]
    simp only [List.getD_eq_getElem?_getD]
    rw [List.getElem?_take, if_pos hkn]

/-- Valid of a list of any length. -/
theorem valid_all (runs : List Int) (A : Option Addr) (n c : Nat) (w : World) (hr : Rd w A n (runs.map (Value.int .i64))) :
    Calls Try.prog 26 #[.slice A n c] w fun e w' => e = .returned (.bool (validB runs)) ∧ w' = w := by
  by_cases h : n ≤ 1048576
  · exact valid_any runs A n c w hr h
  · have hl : runs.length = n := by simpa using hr.len
    have hv : validB runs = false := validB_no (by omega)
    rw [hv]
    clear hl hv
    go_enter Try.func26, Try.ntmps26
    go_wp2_with fail
    all_goals
      go_ret
      exact ⟨rfl, rfl⟩

set_option maxHeartbeats 4000000 in
set_option maxRecDepth 100000 in
theorem twill9_main (runs : List Int) (step : Int) (A0 : Option Addr) (n0 c0 : Nat) (w : World) (hr : Rd w A0 n0 (runs.map (Value.int .i64))) (hn0 : n0 ≤ 64) (hv : validB runs = true)
    (L : List Bool) (n s : Nat) (hL : rowK runs runs.length = L) (hn : L.length = n) (hs : step % (n : Int) = (s : Int)) (hn20 : n ≤ 20) (hn1 : 1 ≤ n) :
    Calls Try.prog 6 #[.slice A0 n0 c0, .int .i64 step] w fun e w' => e = .returned (.bool true) ∧ Below w.heap.size w w' := by
  have hl0 : runs.length = n0 := by simpa using hr.len
  have S0 := (St.start w).addRd hr
  simp only [List.nil_append] at S0
  have hsn : s < n := by have := Int.emod_lt_of_pos step (show 0 < (n : Int) by omega); omega
  have hT1 := twH_pos (n := n) (s := s) hn1
  have hT2 := twH_le n s
  have hAZ := Lib.hid (fun y h1 h2 => at_zero (n := n) (s := s) (y := y) hn1 h1 h2)
  have hEZ := Lib.hid (end_zero (n := n) (s := s) hn1)
  have hAT := Lib.hid (fun x y (hx : x < n) (hy : y < twH n s) k hk => tw_at (L := L) (k := k) hn hn1 hx hy hk)
  have hRP := tw_rep (step := step) hn hn1 hs
  have hR0 := tw_row0 (s := s) hn hn1
  have hRU := tw_runs hv
  have hTL : (Pl.tab n (twH n s) (twF L s)).length = twH n s * n := by simp [Pl.tab_length]
  have hTW : twillG runs step = (⟨n, twH n s, Pl.tab n (twH n s) (twF L s)⟩, 0) := twillG_yes hv hL hn (by omega)
  rw [hL] at hRU
  generalize hTT : Pl.tab n (twH n s) (twF L s) = T at *
  generalize hHH : twH n s = H at *
  clear hTT hHH
  have hck : chkG ⟨n, H, T⟩ = 0 := by
    show chk (n : Int) (H : Int) T.length = 0
    exact chk_ok (by omega) (by omega) (by omega) (by omega) (by rw [hTL, Int.natCast_mul, Int.mul_comm])
  have hck2 : chk (n : Int) (H : Int) (H * n) = 0 := by rw [← hTL]; exact hck
  have hlat := lat_is (a := n) (b := H) (bs := T) hn1 hT1
  have hOF := ofG_ok hck
  obtain ⟨hC1, hB1⟩ := lat_one hn1 hT1 hlat hRP
  have hA1 := hlat.a1
  have hA2 := hlat.a2
  generalize latA n H T = A at *
  generalize latB n H T = B at *
  generalize latC n H T = C at *
  have hMV := movesG_yes hOF hC1
  have hIS := isG_ok (dx := step) (dy := 1) hck
  rw [hRP] at hIS
  have HV := Lib.hid (fun W h => valid_any runs A0 n0 c0 W h (by omega))
  rw [hv] at HV
  have HR := Lib.hid (fun W h => rrow_any runs A0 n0 c0 W h hv)
  rw [← hl0, hL, hl0] at HR
  have HT := Lib.hid (fun W h => twill_any runs step A0 n0 c0 W h (by omega))
  rw [hTW] at HT
  have HI := Lib.hid (fun A' n' c' W h hc => is_any ⟨n, H, T⟩ step 1 A' n' c' W h hc)
  rw [hIS] at HI
  have HM := Lib.hid (fun A' n' c' W h hc => moves_any ⟨n, H, T⟩ A' n' c' W h hc)
  rw [hMV] at HM
  have HO := Lib.hid (fun A' n' c' W h hc => of_any ⟨n, H, T⟩ A' n' c' W h hc)
  rw [hOF] at HO
  have HU := Lib.hid (fun A' n' c' W h hc => runs_any L A' n' c' W h hc)
  rw [hRU] at HU
  have HMA := Lib.hid (fun W => mod_any step (A : Int) W (by omega) (by omega))
  rw [← hB1] at HMA
  have HMn := Lib.hid (fun W => mod_any step (n : Int) W (by omega) (by omega))
  rw [hs] at HMn
  have HMk := Lib.hid (fun X k W (h : X % (n : Int) = ((k : Nat) : Int)) => mod9_to X n k W (by omega) (by omega) h)
  simp only at HV HR HT HI HM HO HU
  have HR0 := Lib.hid hR0
  have HTL := Lib.hid hTL
  have HLn := Lib.hid hn
  have hHn : H * n ≤ 400 := Nat.le_trans (Nat.mul_le_mul (show H ≤ 20 by omega) hn20) (by decide)
  have hHn1 : n ≤ H * n := Nat.le_mul_of_pos_left n hT1
  have hl0' := Lib.hid hl0
  clear hC1
  clear hv hL hn hs hRP hR0 hRU hTL hTW hck hlat hOF hB1 hMV hIS hr hl0
  have hck3 : (chk (n : Int) (H : Int) (H * n) != 0) = false := by rw [hck2]; rfl
  clear hck2
  generalize hN : H * n = N at *
  have HN := Lib.hid hN
  clear hN
  go_enter Try.func6, Try.ntmps6
  go_wp2_with fail
  refine (HV.out _ (S0.rd 0 rfl)).mono ?_
  rintro e w1 ⟨rfl, h1⟩
  have h2 := h1.symm
  subst h2
  clear h1
  go_wp2_with fail
  refine (HR.out _ (S0.rd 0 rfl)).mono ?_
  rintro e w2 ⟨A2, n2, cc2, rfl, hown2, hb2⟩
  obtain rfl : n2 = n := by have h1 := hown2.1; have h2 := HLn.out; simp at h1; omega
  have S2 := S0.keep hb2
  clear hown2
  go_wp2_with fail
  refine (HT.out _ (S2.rd 0 rfl)).mono ?_
  rintro e w3 ⟨A3, n3, cc3, rfl, hown3, hb3⟩
  simp only at hown3 ⊢
  obtain rfl : n3 = N := by have h1 := hown3.1; have h2 := HTL.out; simp at h1; omega
  have hc3 := own_le hown3
  obtain ⟨g3, rfl, hg3, hg3l, _⟩ := own_form hown3 (by omega)
  have S3 := ((S2.keep hb3).addRd (rd_of_own hown3)).box #[.int .i64 n2, .int .i64 H, .slice (some ⟨g3, 0, none⟩) n3 cc3] 24
  simp only [List.nil_append, List.cons_append] at S3
  clear S2 hown3
  go_wp2_with fail
  refine (HR.out _ (S3.rd 0 rfl)).mono ?_
  rintro e w4 ⟨A4, n4, cc4, rfl, hown4, hb4⟩
  obtain rfl : n4 = n2 := by have h1 := hown4.1; have h2 := HLn.out; simp at h1; omega
  have S4 := S3.keep hb4
  clear S3 hown4
  obtain ⟨d0, d1, d2⟩ := (S4.blk 2 rfl).cell3
  go_wp2_with fail
  refine (rcheck_any _ _ _ _ _ _).mono ?_
  rintro e w5 ⟨rfl, hb5⟩
  have S5 := S4.keep hb5
  clear S4 d0 d1 d2
  obtain ⟨d0, d1, d2⟩ := (S5.blk 2 rfl).cell3
  have hupto := rd_upto (S5.rd 1 rfl) hHn1
  rw [HR0.out] at hupto
  have hHUP := Lib.hid hupto
  clear hupto
  go_wp2_with fail
  refine (HU.out _ _ _ _ hHUP.out (by omega)).mono ?_
  rintro e w6 ⟨A6, n6, cc6, rfl, hown6, hb6⟩
  have hn6 : n6 ≤ 1048576 := by have h1 := hown6.1; have h2 := hl0'.out; simp at h1; omega
  have S6 := (S5.keep hb6).addRd (rd_of_own hown6)
  simp only [List.nil_append, List.cons_append] at S6
  clear S5 d0 d1 d2 hHUP hown6
  obtain ⟨d0, d1, d2⟩ := (S6.blk 2 rfl).cell3
  go_wp2_with fail
  refine (HI.out _ _ _ _ (S6.rd 1 rfl) hc3).mono ?_
  rintro e w7 ⟨rfl, hb7⟩
  have S7 := S6.keep hb7
  clear S6 d0 d1 d2
  obtain ⟨d0, d1, d2⟩ := (S7.blk 2 rfl).cell3
  go_wp2_with fail
  refine (HM.out _ _ _ _ (S7.rd 1 rfl) hc3).mono ?_
  rintro e w8 ⟨A8, n8, cc8, rfl, hown8, hb8⟩
  obtain rfl : n8 = 1 := by have := hown8.1; simp at this; omega
  have S8 := (S7.keep hb8).addRd (rd_of_own hown8)
  simp only [List.nil_append, List.cons_append] at S8
  clear S7 d0 d1 d2 hown8
  obtain ⟨d0, d1, d2⟩ := (S8.blk 2 rfl).cell3
  go_wp2_with fail
  refine (HO.out _ _ _ _ (S8.rd 1 rfl) hc3).mono ?_
  rintro e w9 ⟨rfl, hb9⟩
  have S9 := (S8.keep hb9).box #[.int .i64 A, .int .i64 B, .int .i64 C] 57
  simp only [List.nil_append, List.cons_append] at S9
  clear S8 d0 d1 d2
  obtain ⟨e0, e1, e2⟩ := (S9.blk 5 rfl).cell3
  obtain ⟨gm, om, hA8, _, hcm⟩ := (S9.rd 4 rfl).at_ (by omega)
  subst hA8
  have m0 := hcm 0 (.int .i64 B) rfl
  rw [Nat.add_zero] at m0
  have R1 := Lib.hid (S9.rd 3 rfl)
  have R2 := Lib.hid (S9.rd 0 rfl)
  go_wp2_with fail
  go_quiet (first | ((go_at_call 15; exact Calls.quiet_of (lsame_quiet runs _ _ _ _ _ _ _ (R1.out.drewN _) (R2.out.drewN _) hn6))) | ((go_at_call 31; exact Calls.quiet_of_same (HMA.out _))))
  have S := S9.drewN nq
  clear S9 e0 e1 e2 R1 R2 m0 hcm
  obtain ⟨d0, d1, d2⟩ := (S.blk 2 rfl).cell3
  go_wp2_with fail
  have HS := Lib.hid S
  obtain ⟨WW, hWW⟩ : ∃ WW, (w9.alloc (.cells #[.int .i64 A, .int .i64 B, .int .i64 C] 57)).drewN nq = WW := ⟨_, rfl⟩
  rw [hWW] at HS ⊢
  clear S hWW d0 d1 d2
  go_loopw [16] (fun i wr => ∃ y : Nat, 1 ≤ y ∧ y ≤ H ∧ i = .int .i64 y ∧ Below WW.heap.size WW wr) (fun i _ => H - (intOf i).toNat)
  case atStart => exact ⟨1, Nat.le_refl _, hT1, rfl, Below.refl _ _⟩
  case round =>
    obtain ⟨y, hy1, hy, rfl, hB⟩ := hrel
    have S := HS.out.keep hB
    obtain ⟨d0, d1, d2⟩ := (S.blk 2 rfl).cell3
    by_cases hlt : y < H
    · have hp0 : s * y ≤ 400 := Nat.le_trans (Nat.mul_le_mul (show s ≤ 20 by omega) (show y ≤ 20 by omega)) (by decide)
      have hq0 : (y + 1) * n4 ≤ n3 := by rw [← HN.out]; exact Nat.mul_le_mul_right n4 hlt
      rw [Nat.succ_mul] at hq0
      have hAZy := hAZ.out y hy1 hlt
      have hATy := Lib.hid (fun x hx k hk => hAT.out x y hx hlt k hk)
      have e1 : (s : Int) * (y : Int) = ((s * y : Nat) : Int) := (Int.natCast_mul s y).symm
      have e2 : (y : Int) * (n4 : Int) = ((y * n4 : Nat) : Int) := (Int.natCast_mul y n4).symm
      have t1 : ((s * y : Nat) : Int).tmod (n4 : Int) = ((s * y % n4 : Nat) : Int) := by rw [Int.tmod_eq_emod_of_nonneg (by omega)]; exact (Int.natCast_emod _ _).symm
      have t2 : ((s * y : Nat) : Int) % (n4 : Int) = ((s * y % n4 : Nat) : Int) := (Int.natCast_emod _ _).symm
      have hal : s * y % n4 < n4 := Nat.mod_lt _ (by omega)
      have hn40 : ¬ (n4 : Int) = 0 := by omega
      have hn41 : ¬ n4 = 0 := by omega
      generalize s * y % n4 = at' at *
      generalize s * y = p at *
      generalize y * n4 = q at *
      have haz : ((at' : Int) == 0) = false := by simp; omega
      go_wp2_with fail
      refine (HMn.out _).mono ?_
      rintro e w11 ⟨rfl, h11⟩
      have h12 := h11.symm
      subst h12
      clear h11
      go_wp2_with fail
      go_loopw [18] (fun i wr => ∃ x : Nat, x ≤ n4 ∧ i = .int .i64 x ∧ Below WW.heap.size WW wr) (fun i _ => n4 - (intOf i).toNat)
      case atStart => exact ⟨0, Nat.zero_le _, rfl, hB⟩
      case round =>
        clear d0 d1 d2 S hB t1 t2 e1
        obtain ⟨x, hx, rfl, hB⟩ := hrel
        have S := HS.out.keep hB
        have hG := S.blk 2 rfl
        obtain ⟨d0, d1, d2⟩ := hG.cell3
        by_cases hlx : x < n4
        · obtain ⟨k, hk⟩ : ∃ k : Nat, ((x : Int) - (at' : Int)) % (n4 : Int) = (k : Int) := ⟨(((x : Int) - (at' : Int)) % (n4 : Int)).toNat, (Int.toNat_of_nonneg (Int.emod_nonneg _ (by omega))).symm⟩
          have hk1 : k < n4 := by have := Int.emod_lt_of_pos ((x : Int) - (at' : Int)) (show 0 < (n4 : Int) by omega); omega
          obtain ⟨v1, v2⟩ := hATy.out x hlx k hk
          have g1 := row_cell (S.rd 1 rfl) (k := q + x) (by omega) v1.symm
          have g2 := row_cell (S.rd 1 rfl) (k := k) (by omega) v2.symm
          have HMK := Lib.hid (fun X W (h : X = (x : Int) - (at' : Int)) => HMk.out X k W (by rw [h]; exact hk))
          have hw1 : IntKind.i64.wrap (q : Int) = (q : Int) := IntWalk.i64_in _ (by omega)
          have hw2 : IntKind.i64.wrap ((q : Int) + (x : Int)) = (q : Int) + (x : Int) := IntWalk.i64_in _ (by omega)
          have hw3 : IntKind.i64.wrap ((x : Int) - (at' : Int)) = (x : Int) - (at' : Int) := IntWalk.i64_in _ (by omega)
          have hq1 : (0 : Int) ≤ (q : Int) + (x : Int) := by omega
          have hq2 : ((q : Int) + (x : Int)).toNat = q + x := by omega
          have hq3 : (q : Int) + (x : Int) < (n3 : Int) := by omega
          generalize L.getD k false = v at *
          clear v1 v2 hk
          go_wp2_with fail
          go_quiet ((go_at_call 31; exact Calls.quiet_of_same (HMK.out _ _ rfl)))
          go_wp2_with fail
          go_roundw
          case rel => exact ⟨x + 1, by omega, by go_num, below_drewN hB _⟩
          case measure => simp [intOf]; omega
        · go_wp2_with fail
          go_roundw
          case rel => exact ⟨y + 1, by omega, by omega, by go_num, hB⟩
          case measure => simp [intOf]; omega
    · obtain hyH : y = H := by omega
      subst hyH
      have hz0 : s * y ≤ 400 := Nat.le_trans (Nat.mul_le_mul (show s ≤ 20 by omega) (show y ≤ 20 by omega)) (by decide)
      have e1 : (s : Int) * (y : Int) = ((s * y : Nat) : Int) := (Int.natCast_mul s y).symm
      have z2 : ((s * y : Nat) : Int) % (n4 : Int) = 0 := by rw [← Int.natCast_emod, hEZ.out]; rfl
      have z1 : ((s * y : Nat) : Int).tmod (n4 : Int) = 0 := by rw [Int.tmod_eq_emod_of_nonneg (by omega)]; exact z2
      have hw1 : IntKind.i64.wrap ((s * y : Nat) : Int) = ((s * y : Nat) : Int) := IntWalk.i64_in _ (by omega)
      have hn40 : ¬ (n4 : Int) = 0 := by omega
      have hn41 : ¬ n4 = 0 := by omega
      generalize s * y = z at *
      have hG := S.blk 2 rfl
      go_wp2_with fail
      go_region_held3 (fun w' => w'.cell? ⟨w3.heap.size, 0, none⟩ = some (.int .i64 n4) ∧ w'.cell? ⟨w3.heap.size, 1, none⟩ = some (.int .i64 y) ∧ w'.cell? ⟨w3.heap.size, 2, none⟩ = some (.slice (some ⟨g3, 0, none⟩) n3 cc3))
        (first | exact hG9.cell3 | exact hG.cell3 | go_keep)
        (first
          | (go_at_call 31
             refine (HMn.out _).mono ?_
             rintro e w11 ⟨rfl, h11⟩
             have h12 := h11.symm
             subst h12)
          | (go_at_call 25
             refine (alive_any _).mono ?_
             rintro e w11 ⟨rfl, hb11⟩
             have hG9 := (S.drew.keep hb11).blk 2 rfl
             have hS9 := (S.drew.keep hb11).below)
          | fail)
      go_wp2_with fail
      go_ret
      exact ⟨rfl, hS9⟩

set_option maxHeartbeats 4000000 in
set_option maxRecDepth 100000 in
theorem twill9_walk (runs : List Int) (step : Int) (A0 : Option Addr) (n0 c0 : Nat) (w : World) (hr : Rd w A0 n0 (runs.map (Value.int .i64))) :
    Calls Try.prog 6 #[.slice A0 n0 c0, .int .i64 step] w fun e w' => e = .returned (.bool true) ∧ Below w.heap.size w w' := by
  have hl0 : runs.length = n0 := by simpa using hr.len
  have S0 := (St.start w).addRd hr
  simp only [List.nil_append] at S0
  cases hv : validB runs with
  | false =>
    have HV := Lib.hid (fun W h => valid_all runs A0 n0 c0 W h)
    rw [hv] at HV
    clear hv
    go_enter Try.func6, Try.ntmps6
    go_wp2_with fail
    refine (HV.out _ (S0.rd 0 rfl)).mono ?_
    rintro e w1 ⟨rfl, h1⟩
    have h2 := h1.symm
    subst h2
    clear h1
    go_wp2_with fail
    refine (alive_any _).mono ?_
    rintro e w2 ⟨rfl, hb2⟩
    go_wp2_with fail
    go_ret
    exact ⟨rfl, (S0.keep hb2).below⟩
  | true =>
    obtain ⟨⟨h2, h64, heven⟩, hok⟩ := validB_open hv
    have h1n : 1 ≤ (rowK runs runs.length).length := by
      have h1 := preS_len (r := runs) (fun j hj => by have := hok j hj; unfold okAt at this; rw [decide_eq_true_eq] at this; omega) (Nat.le_refl runs.length)
      omega
    by_cases h20 : 20 < (rowK runs runs.length).length
    · have HV := Lib.hid (fun W h => valid_any runs A0 n0 c0 W h (by omega))
      have HR := Lib.hid (fun W h => rrow_any runs A0 n0 c0 W h hv)
      rw [hv] at HV
      rw [← hl0] at HR
      generalize rowK runs runs.length = L at *
      clear hv h2 h64 heven hok
      go_enter Try.func6, Try.ntmps6
      go_wp2_with fail
      refine (HV.out _ (S0.rd 0 rfl)).mono ?_
      rintro e w1 ⟨rfl, h1⟩
      have h2 := h1.symm
      subst h2
      clear h1
      rw [hl0] at HR
      go_wp2_with fail
      refine (HR.out _ (S0.rd 0 rfl)).mono ?_
      rintro e w2 ⟨A2, n2, cc2, rfl, hown2, hb2⟩
      have hn2 : 20 < n2 := by have h1 := hown2.1; simp at h1; omega
      have S2 := S0.keep hb2
      go_wp2_with fail
      refine (alive_any _).mono ?_
      rintro e w3 ⟨rfl, hb3⟩
      go_wp2_with fail
      go_ret
      exact ⟨rfl, (S2.keep hb3).below⟩
    · have hs := Int.emod_nonneg step (show ((rowK runs runs.length).length : Int) ≠ 0 by omega)
      exact twill9_main runs step A0 n0 c0 w hr (by omega) hv _ _ (step % ((rowK runs runs.length).length : Int)).toNat rfl rfl (Int.toNat_of_nonneg hs).symm (by omega) h1n
end Go.Proofs.Ytbgekiifffnalaa
