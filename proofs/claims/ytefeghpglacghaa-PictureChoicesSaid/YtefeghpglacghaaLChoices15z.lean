/- The law PictureChoices, walked: it answers true and turns nothing that was there. -/
import Derived.Test.YtefeghpglacghaaAlive15z
import Derived.Test.YtefeghpglacghaaFirstTz
import Derived.Test.YtefeghpglacghaaHas15z
import Derived.Test.YtefeghpglacghaaRFrontFz
namespace Go.Proofs.Ytefeghpglacghaa
open Go.RowKit

theorem LR.lit {w : World} {b o : Nat} {ls : List (List Int)} (h : LR w (some ⟨b, o, none⟩) ls) {i : Nat} {l : List Int} (hi : ls[i]? = some l) : ∃ A' c, w.cell? ⟨b, o + i, none⟩ = some (.slice A' l.length c) ∧ Rd w A' l.length (l.map (Value.int .i64)) := by
  obtain ⟨bl, ol, A', c, hA, h1, h2⟩ := h.at_ hi
  injection hA with e
  injection e with e1 e2
  subst e1 e2
  exact ⟨A', c, h1, h2⟩
theorem int_lit {w : World} {b o n i : Nat} {l : List Int} (h : Rd w (some ⟨b, o, none⟩) n (l.map (Value.int .i64))) (hi : i < n) : w.cell? ⟨b, o + i, none⟩ = some (.int .i64 (l.getD i 0)) := by
  have hl : l.length = n := by simpa using h.len
  exact h.lit i _ (by rw [List.getElem?_map, List.getElem?_eq_getElem (by omega)]; simp [List.getD, show i < l.length by omega])

set_option linter.unusedVariables false in
set_option linter.unusedSimpArgs false in
set_option maxHeartbeats 40000000 in
set_option maxRecDepth 100000 in
theorem pchoi_0 (g : Gd) (p q : List Int) (B Ap Aq : Option Addr) (k d np cp nq cq : Nat) (w : World) (hg : Rd w B k (g.bits.map Value.bool)) (hrp : Rd w Ap np (p.map (Value.int .i64))) (hrq : Rd w Aq nq (q.map (Value.int .i64))) (h2 : thr g p q ≠ 0) :
    Calls Try.prog 5 #[.agg #[.int .i64 g.w, .int .i64 g.h, .slice B k d], .slice Ap np cp, .slice Aq nq cq] w fun e w' => e = .returned (.bool true) ∧ Below w.heap.size w w' := by
  have HL := Lib.hid (fun W => alive15_any W)
  have hkl : g.bits.length = k := by simpa using hg.len
  have h2b : (thr g p q != 0) = true := by simpa using h2
  have HT := Lib.hid (fun A c W hrp hrq => rthr14_to g p q rfl A Ap Aq k c np cp nq cq W hkl hrp hrq)
  generalize thr g p q = t at *
  clear hkl h2
  have S0 := ((((St.start w).addRd hg).addRd hrp).addRd hrq).box #[.int .i64 g.w, .int .i64 g.h, .slice B k d] 40
  simp only [size_alloc1, List.nil_append, List.cons_append] at S0
  clear hg hrp hrq
  go_enter Try.func5, Try.ntmps5
  go_wp2_with fail
  refine (HL.out _).mono ?_
  rintro e w1 ⟨rfl, hb1⟩
  have S1 := S0.keep hb1
  obtain ⟨ca0, ca1, ca2⟩ := (S1.blk 3 rfl).cell3
  go_wp2_with fail
  refine (HT.out _ _ _ (S1.rd 1 rfl) (S1.rd 2 rfl)).mono ?_
  rintro e w2 ⟨rfl, hb2⟩
  have S2 := S1.keep hb2
  clear ca0 ca1 ca2 S1
  obtain ⟨ca0, ca1, ca2⟩ := (S2.blk 3 rfl).cell3
  go_wp2_with fail
  go_ret
  exact ⟨rfl, S2.below⟩

set_option linter.unusedVariables false in
set_option linter.unusedSimpArgs false in
set_option maxHeartbeats 40000000 in
set_option maxRecDepth 100000 in
theorem pchoi_1 (g : Gd) (p q : List Int) (B Ap Aq : Option Addr) (k d np cp nq cq : Nat) (w : World) (hg : Rd w B k (g.bits.map Value.bool)) (hrp : Rd w Ap np (p.map (Value.int .i64))) (hrq : Rd w Aq nq (q.map (Value.int .i64))) (h2 : thr g p q = 0) (h1 : 100 < k) :
    Calls Try.prog 5 #[.agg #[.int .i64 g.w, .int .i64 g.h, .slice B k d], .slice Ap np cp, .slice Aq nq cq] w fun e w' => e = .returned (.bool true) ∧ Below w.heap.size w w' := by
  have HL := Lib.hid (fun W => alive15_any W)
  have hkl : g.bits.length = k := by simpa using hg.len
  have HT := Lib.hid (fun A c W hrp hrq => rthr14_to g p q h2 A Ap Aq k c np cp nq cq W hkl hrp hrq)
  clear hkl h2
  have S0 := ((((St.start w).addRd hg).addRd hrp).addRd hrq).box #[.int .i64 g.w, .int .i64 g.h, .slice B k d] 40
  simp only [size_alloc1, List.nil_append, List.cons_append] at S0
  clear hg hrp hrq
  go_enter Try.func5, Try.ntmps5
  go_wp2_with fail
  refine (HL.out _).mono ?_
  rintro e w1 ⟨rfl, hb1⟩
  have S1 := S0.keep hb1
  obtain ⟨ca0, ca1, ca2⟩ := (S1.blk 3 rfl).cell3
  go_wp2_with fail
  refine (HT.out _ _ _ (S1.rd 1 rfl) (S1.rd 2 rfl)).mono ?_
  rintro e w2 ⟨rfl, hb2⟩
  have S2 := S1.keep hb2
  clear ca0 ca1 ca2 S1
  obtain ⟨ca0, ca1, ca2⟩ := (S2.blk 3 rfl).cell3
  go_wp2_with fail
  go_ret
  exact ⟨rfl, S2.below⟩

set_option linter.unusedVariables false in
set_option linter.unusedSimpArgs false in
set_option maxHeartbeats 40000000 in
set_option maxRecDepth 100000 in
theorem pchoi_2 (a b : Nat) (p q : List Int) (bs : List Bool) (B Ap Aq : Option Addr) (k d np cp nq cq : Nat) (w : World) (hg : Rd w B k (bs.map Value.bool)) (hrp : Rd w Ap np (p.map (Value.int .i64))) (hrq : Rd w Aq nq (q.map (Value.int .i64))) (ha1 : 1 ≤ a) (ha : a ≤ 64) (hb1 : 1 ≤ b) (hb : b ≤ 64) (hbl : bs.length = b * a) (hp : p.length = a) (hq : q.length = b) (hfp : fineL p = true) (hfq : fineL q = true) (h1 : ¬ 100 < k) :
    Calls Try.prog 5 #[.agg #[.int .i64 a, .int .i64 b, .slice B k d], .slice Ap np cp, .slice Aq nq cq] w fun e w' => e = .returned (.bool true) ∧ Below w.heap.size w w' := by
  have hba : b * a ≤ 64 * 64 := Nat.mul_le_mul hb ha
  have hkl : bs.length = k := by simpa using hg.len
  have hpl : p.length = np := by simpa using hrp.len
  have hql : q.length = nq := by simpa using hrq.len
  obtain rfl : k = b * a := by omega
  obtain rfl : np = a := by omega
  obtain rfl : nq = b := by omega
  clear hkl hpl hql
  obtain ⟨bp, op, hAp, _, _⟩ := hrp.at_ ha1
  obtain ⟨bq, oq, hAq, _, _⟩ := hrq.at_ hb1
  subst hAp hAq
  have hth : thr ⟨np, nq, bs⟩ p q = 0 := thr_mk ha1 ha hb1 hb hbl hp hq hfp hfq
  have hcsl : (Pl.tab np nq (frontF np bs p q)).length = nq * np := Pl.tab_length
  have h0 : chkI ⟨np, nq, Pl.tab np nq (frontF np bs p q)⟩ = 0 := chkI_tab ha1 ha hb1 hb fun x y hx hy => frontF_fine hfp hfq hp hq hx hy
  have hff := front_fits (bs := bs) hp hq hfp hfq
  have HL := Lib.hid (fun W => alive15_any W)
  have HT := Lib.hid (fun A c W hrp hrq => rthr14_to ⟨np, nq, bs⟩ p q hth A (some ⟨bp, op, none⟩) (some ⟨bq, oq, none⟩) (nq * np) c np cp nq cq W hbl hrp hrq)
  have HF := Lib.hid (fun A c W h hrp hrq => rfront_any ⟨np, nq, bs⟩ p q A (some ⟨bp, op, none⟩) (some ⟨bq, oq, none⟩) (nq * np) c np cp nq cq W h hrp hrq)
  rw [frontI_mk hth] at HF
  have HCS := Lib.hid hcsl
  generalize Pl.tab np nq (frontF np bs p q) = cs at *
  have H1 := Lib.hid (fun A c W h => First_fit np nq cs A c W h0 ⟨_, hff⟩ h (by omega))
  have H2 := Lib.hid (fun A c W h => Choices_fit np nq cs A c W h0 ⟨_, hff⟩ h (by omega))
  have HY := Lib.hid (fun (l : List Int) (z : Int) A c W h (hl : l.length ≤ 16) hz => has_yes l z A l.length c W h (by omega) hz)
  simp only at HT HF
  have HFF := Lib.hid hff
  have HP := Lib.hid hp
  have HQ := Lib.hid hq
  have hnm : ((nq * np : Nat) : Int) ≤ 100 := by omega
  have hnm2 : decide ((100 : Int) < (nq : Int) * (np : Int)) = false := by rw [← Int.natCast_mul]; exact decide_eq_false (by omega)
  clear hth hcsl hff h0 hfp hfq hbl hp hq
  have S0 := ((((St.start w).addRd hg).addRd hrp).addRd hrq).box #[.int .i64 np, .int .i64 nq, .slice B (nq * np) d] 40
  simp only [size_alloc1, List.nil_append, List.cons_append] at S0
  clear hg hrp hrq
  go_enter Try.func5, Try.ntmps5
  go_wp2_with fail
  refine (HL.out _).mono ?_
  rintro e w1 ⟨rfl, hb1⟩
  have S1 := S0.keep hb1
  obtain ⟨ca0, ca1, ca2⟩ := (S1.blk 3 rfl).cell3
  go_wp2_with fail
  refine (HT.out _ _ _ (S1.rd 1 rfl) (S1.rd 2 rfl)).mono ?_
  rintro e w2 ⟨rfl, hb2⟩
  have S2 := S1.keep hb2
  clear ca0 ca1 ca2 S1
  obtain ⟨ca0, ca1, ca2⟩ := (S2.blk 3 rfl).cell3
  go_wp2_with fail
  refine (HF.out _ _ _ (S2.rd 0 rfl) (S2.rd 1 rfl) (S2.rd 2 rfl)).mono ?_
  rintro e w3 ⟨A3, n3, cc3, rfl, hown3, hb3⟩
  try simp only at hown3 ⊢
  obtain rfl : n3 = nq * np := by have h8 := hown3.1; rw [List.length_map, HCS.out] at h8; omega
  have S3 := ((S2.keep hb3).addRd (rd_of_own hown3)).box #[.int .i64 np, .int .i64 nq, .slice A3 (nq * np) cc3] 24
  simp only [List.nil_append, List.cons_append] at S3
  clear ca0 ca1 ca2 S2 hown3
  obtain ⟨ca0, ca1, ca2⟩ := (S3.blk 5 rfl).cell3
  go_wp2_with fail
  refine (H2.out _ _ _ (S3.rd 4 rfl)).mono ?_
  rintro e w4 ⟨E1, E2, f1, f2, rfl, hE, hK, hb4⟩
  obtain ⟨be, oe, _, _, hEa, _, _⟩ := hE.at_ (chLs_at (show 0 < np by omega))
  obtain ⟨bk, ok, _, _, hKa, _, _⟩ := hK.at_ (chLs_at (show 0 < nq by omega))
  subst hEa hKa
  have S4 := S3.keep hb4
  clear ca0 ca1 ca2 S3
  obtain ⟨ca0, ca1, ca2⟩ := (S4.blk 5 rfl).cell3
  go_wp2_with fail
  refine (H1.out _ _ _ (S4.rd 4 rfl)).mono ?_
  rintro e w5 ⟨P, Q, A1, A2, k1, k2, rfl, hP, hQ, hFF, hLL, r1, r2, hb5⟩
  obtain ⟨bf, of, hA1, _, _⟩ := r1.at_ ha1
  obtain ⟨bh, oh, hA2, _, _⟩ := r2.at_ (show 0 < nq by omega)
  subst hA1 hA2
  have S5 := ((S4.keep hb5).addRd r1).addRd r2
  replace hE := hE.below hb5
  replace hK := hK.below hb5
  simp only [List.nil_append, List.cons_append] at S5
  clear ca0 ca1 ca2 S4 r1 r2
  obtain ⟨ca0, ca1, ca2⟩ := (S5.blk 5 rfl).cell3
  have HP2 := Lib.hid hP
  have HQ2 := Lib.hid hQ
  have HF2 := Lib.hid hFF
  have HL2 := Lib.hid hLL
  have HE := Lib.hid hE
  have HK := Lib.hid hK
  clear hFF hLL hP hQ hE hK
  go_wp2_with fail
  clear ca0 ca1 ca2
  go_loopw [16] (fun iv wr => ∃ i : Nat, i ≤ np + nq ∧ iv = .int .i64 i ∧ Below w5.heap.size w5 wr) (fun iv _ => np + nq - (intOf iv).toNat)
  case atStart => exact ⟨0, Nat.zero_le _, rfl, Below.refl _ _⟩
  case round =>
    obtain ⟨i, hi9, rfl, hB⟩ := hrel
    have SR := S5.keep hB
    obtain ⟨ca0, ca1, ca2⟩ := (SR.blk 5 rfl).cell3
    by_cases hlt : i < np + nq
    · by_cases hia : i < np
      · obtain ⟨Al, cl, e0, hRl⟩ := (HE.out.below hB).lit (chLs_at hia)
        have y0 := int_lit (SR.rd 1 rfl) hia
        have z0 := int_lit (SR.rd 6 rfl) hia
        have hm1 := own_end HP.out HFF.out hia
        have hm2 := own_end HP2.out HF2.out hia
        have hz3 : i = 0 → (chL np nq cs 0 i 16).getD 0 0 = P.getD i 0 := fun h => by rw [h]; exact first_end (by omega) HP2.out HF2.out HL2.out
        have hup := fun (k : Nat) (h1 : 1 ≤ k) (h2 : k < (chL np nq cs 0 i 16).length) => chL_up h1 h2
        have hl16 := chL_len (a := np) (b := nq) (cs := cs) 0 i 16
        generalize chL np nq cs 0 i 16 = l at *
        generalize p.getD i 0 = ov at *
        generalize P.getD i 0 = fv at *
        have hpos : 0 < l.length := List.length_pos_of_mem hm1
        obtain ⟨bl, ol, hAl, _, _⟩ := hRl.at_ hpos
        subst hAl
        have HU := Lib.hid hup
        have HM1 := Lib.hid hm1
        have HM2 := Lib.hid hm2
        have HZ := Lib.hid hz3
        clear hup hm1 hm2 hz3
        go_wp2_with fail
        go_quiet (fail)
        go_wp2_with fail
        refine (HY.out l ov _ _ _ (hRl.drewN _) hl16 HM1.out).mono ?_
        rintro e wx ⟨rfl, hbx⟩
        have hBx := (below_drewN hB _).trans (hbx.mono hB.size)
        have hRx := (hRl.drewN _).below hbx
        go_wp2_with fail
        refine (HY.out l fv _ _ _ hRx hl16 HM2.out).mono ?_
        rintro e wy ⟨rfl, hby⟩
        have hBy := hBx.trans (hby.mono hBx.size)
        have hRy := hRx.below hby
        clear hRx hbx hby hBx hB SR ca0 ca1 ca2 e0 y0 z0 hRl
        by_cases hi0 : i = 0
        · have hz := HZ.out hi0
          have g0 := int_lit hRy hpos
          rw [hz, Nat.add_zero] at g0
          have hic : ((i : Int) == 0) = true := by simpa using hi0
          have hi1 := Lib.hid hi0
          clear hz hi0
          go_wp2_with fail
          try clear g0
          go_loopw [20] (fun kv wz => ∃ kk : Nat, 1 ≤ kk ∧ kk ≤ l.length ∧ kv = .int .i64 kk ∧ Below w5.heap.size w5 wz ∧ Rd wz (some ⟨bl, ol, none⟩) l.length (l.map (Value.int .i64))) (fun kv _ => l.length - (intOf kv).toNat)
          case atStart => exact ⟨1, Nat.le_refl _, hpos, rfl, hBy, hRy⟩
          case round =>
            clear hBy hRy
            obtain ⟨kk, hk1, hk2, rfl, hBz, hRz⟩ := hrel
            by_cases hkl : kk < l.length
            · have g1 := int_lit hRz hkl
              have g2 := int_lit hRz (show kk - 1 < l.length by omega)
              have hsu := HU.out kk hk1 hkl
              have hk3 : ((kk - 1 : Nat) : Int) = (kk : Int) - 1 := by omega
              generalize l.getD kk 0 = x at *
              generalize l.getD (kk - 1) 0 = y at *
              have hgt : ¬ x ≤ y := by omega
              have hgt2 : decide (x ≤ y) = false := decide_eq_false hgt
              go_wp2_with fail
              go_quiet (fail)
              go_wp2_with fail
              go_roundw
              case rel => exact ⟨kk + 1, by omega, by omega, by go_num, below_drewN hBz _, hRz.drewN _⟩
              case measure => simp [intOf]; omega
            · go_wp2_with fail
              go_roundw
              case rel => exact ⟨i + 1, by omega, by go_num, hBz⟩
              case measure => simp [intOf]; omega
        · have hic : ((i : Int) == 0) = false := by simpa using hi0
          clear hi0
          go_wp2_with fail
          try clear g0
          go_loopw [20] (fun kv wz => ∃ kk : Nat, 1 ≤ kk ∧ kk ≤ l.length ∧ kv = .int .i64 kk ∧ Below w5.heap.size w5 wz ∧ Rd wz (some ⟨bl, ol, none⟩) l.length (l.map (Value.int .i64))) (fun kv _ => l.length - (intOf kv).toNat)
          case atStart => exact ⟨1, Nat.le_refl _, hpos, rfl, hBy, hRy⟩
          case round =>
            clear hBy hRy
            obtain ⟨kk, hk1, hk2, rfl, hBz, hRz⟩ := hrel
            by_cases hkl : kk < l.length
            · have g1 := int_lit hRz hkl
              have g2 := int_lit hRz (show kk - 1 < l.length by omega)
              have hsu := HU.out kk hk1 hkl
              have hk3 : ((kk - 1 : Nat) : Int) = (kk : Int) - 1 := by omega
              generalize l.getD kk 0 = x at *
              generalize l.getD (kk - 1) 0 = y at *
              have hgt : ¬ x ≤ y := by omega
              have hgt2 : decide (x ≤ y) = false := decide_eq_false hgt
              go_wp2_with fail
              go_quiet (fail)
              go_wp2_with fail
              go_roundw
              case rel => exact ⟨kk + 1, by omega, by omega, by go_num, below_drewN hBz _, hRz.drewN _⟩
              case measure => simp [intOf]; omega
            · go_wp2_with fail
              go_roundw
              case rel => exact ⟨i + 1, by omega, by go_num, hBz⟩
              case measure => simp [intOf]; omega
      · obtain ⟨j, hj⟩ : ∃ j, i = np + j := ⟨i - np, by omega⟩
        have hjb : j < nq := by omega
        have hsub : (i : Int) - (np : Int) = (j : Int) := by omega
        obtain ⟨Al, cl, e0, hRl⟩ := (HK.out.below hB).lit (chLs_at hjb)
        have y0 := int_lit (SR.rd 2 rfl) hjb
        have z0 := int_lit (SR.rd 7 rfl) hjb
        have hm1 := own_pick HQ.out HFF.out hjb
        have hm2 := own_pick HQ2.out HF2.out hjb
        have hz3 : i = 0 → (chL np nq cs 1 j 16).getD 0 0 = Q.getD j 0 := fun h => by omega
        have hup := fun (k : Nat) (h1 : 1 ≤ k) (h2 : k < (chL np nq cs 1 j 16).length) => chL_up h1 h2
        have hl16 := chL_len (a := np) (b := nq) (cs := cs) 1 j 16
        generalize chL np nq cs 1 j 16 = l at *
        generalize q.getD j 0 = ov at *
        generalize Q.getD j 0 = fv at *
        clear hj
        have hpos : 0 < l.length := List.length_pos_of_mem hm1
        obtain ⟨bl, ol, hAl, _, _⟩ := hRl.at_ hpos
        subst hAl
        have HU := Lib.hid hup
        have HM1 := Lib.hid hm1
        have HM2 := Lib.hid hm2
        have HZ := Lib.hid hz3
        clear hup hm1 hm2 hz3
        go_wp2_with fail
        go_quiet (fail)
        go_wp2_with fail
        refine (HY.out l ov _ _ _ (hRl.drewN _) hl16 HM1.out).mono ?_
        rintro e wx ⟨rfl, hbx⟩
        have hBx := (below_drewN hB _).trans (hbx.mono hB.size)
        have hRx := (hRl.drewN _).below hbx
        go_wp2_with fail
        refine (HY.out l fv _ _ _ hRx hl16 HM2.out).mono ?_
        rintro e wy ⟨rfl, hby⟩
        have hBy := hBx.trans (hby.mono hBx.size)
        have hRy := hRx.below hby
        clear hRx hbx hby hBx hB SR ca0 ca1 ca2 e0 y0 z0 hRl
        by_cases hi0 : i = 0
        · have hz := HZ.out hi0
          have g0 := int_lit hRy hpos
          rw [hz, Nat.add_zero] at g0
          have hic : ((i : Int) == 0) = true := by simpa using hi0
          have hi1 := Lib.hid hi0
          clear hz hi0
          go_wp2_with fail
          try clear g0
          go_loopw [20] (fun kv wz => ∃ kk : Nat, 1 ≤ kk ∧ kk ≤ l.length ∧ kv = .int .i64 kk ∧ Below w5.heap.size w5 wz ∧ Rd wz (some ⟨bl, ol, none⟩) l.length (l.map (Value.int .i64))) (fun kv _ => l.length - (intOf kv).toNat)
          case atStart => exact ⟨1, Nat.le_refl _, hpos, rfl, hBy, hRy⟩
          case round =>
            clear hBy hRy
            obtain ⟨kk, hk1, hk2, rfl, hBz, hRz⟩ := hrel
            by_cases hkl : kk < l.length
            · have g1 := int_lit hRz hkl
              have g2 := int_lit hRz (show kk - 1 < l.length by omega)
              have hsu := HU.out kk hk1 hkl
              have hk3 : ((kk - 1 : Nat) : Int) = (kk : Int) - 1 := by omega
              generalize l.getD kk 0 = x at *
              generalize l.getD (kk - 1) 0 = y at *
              have hgt : ¬ x ≤ y := by omega
              have hgt2 : decide (x ≤ y) = false := decide_eq_false hgt
              go_wp2_with fail
              go_quiet (fail)
              go_wp2_with fail
              go_roundw
              case rel => exact ⟨kk + 1, by omega, by omega, by go_num, below_drewN hBz _, hRz.drewN _⟩
              case measure => simp [intOf]; omega
            · go_wp2_with fail
              go_roundw
              case rel => exact ⟨i + 1, by omega, by go_num, hBz⟩
              case measure => simp [intOf]; omega
        · have hic : ((i : Int) == 0) = false := by simpa using hi0
          clear hi0
          go_wp2_with fail
          try clear g0
          go_loopw [20] (fun kv wz => ∃ kk : Nat, 1 ≤ kk ∧ kk ≤ l.length ∧ kv = .int .i64 kk ∧ Below w5.heap.size w5 wz ∧ Rd wz (some ⟨bl, ol, none⟩) l.length (l.map (Value.int .i64))) (fun kv _ => l.length - (intOf kv).toNat)
          case atStart => exact ⟨1, Nat.le_refl _, hpos, rfl, hBy, hRy⟩
          case round =>
            clear hBy hRy
            obtain ⟨kk, hk1, hk2, rfl, hBz, hRz⟩ := hrel
            by_cases hkl : kk < l.length
            · have g1 := int_lit hRz hkl
              have g2 := int_lit hRz (show kk - 1 < l.length by omega)
              have hsu := HU.out kk hk1 hkl
              have hk3 : ((kk - 1 : Nat) : Int) = (kk : Int) - 1 := by omega
              generalize l.getD kk 0 = x at *
              generalize l.getD (kk - 1) 0 = y at *
              have hgt : ¬ x ≤ y := by omega
              have hgt2 : decide (x ≤ y) = false := decide_eq_false hgt
              go_wp2_with fail
              go_quiet (fail)
              go_wp2_with fail
              go_roundw
              case rel => exact ⟨kk + 1, by omega, by omega, by go_num, below_drewN hBz _, hRz.drewN _⟩
              case measure => simp [intOf]; omega
            · go_wp2_with fail
              go_roundw
              case rel => exact ⟨i + 1, by omega, by go_num, hBz⟩
              case measure => simp [intOf]; omega
    · go_wp2_with fail
      go_ret
      exact ⟨rfl, SR.below⟩

theorem pchoi_walk (g : Gd) (p q : List Int) (B Ap Aq : Option Addr) (k d np cp nq cq : Nat) (w : World) (hg : Rd w B k (g.bits.map Value.bool)) (hrp : Rd w Ap np (p.map (Value.int .i64))) (hrq : Rd w Aq nq (q.map (Value.int .i64))) :
    Calls Try.prog 5 #[.agg #[.int .i64 g.w, .int .i64 g.h, .slice B k d], .slice Ap np cp, .slice Aq nq cq] w fun e w' => e = .returned (.bool true) ∧ Below w.heap.size w w' := by
  by_cases h2 : thr g p q = 0
  · by_cases h1 : 100 < k
    · exact pchoi_1 g p q B Ap Aq k d np cp nq cq w hg hrp hrq h2 h1
    · obtain ⟨a, b, bs, rfl, ha1, ha, hb1, hb, hbl, hp, hq, hfp, hfq⟩ := thr_open h2
      exact pchoi_2 a b p q bs B Ap Aq k d np cp nq cq w hg hrp hrq ha1 ha hb1 hb hbl hp hq hfp hfq h1
  · exact pchoi_0 g p q B Ap Aq k d np cp nq cq w hg hrp hrq h2
end Go.Proofs.Ytefeghpglacghaa
