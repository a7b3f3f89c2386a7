/- The law LoomlogMends, walked. -/
import Derived.Test.YtfjdlbilnoojkaaAlive20z
import Derived.Test.YtfjdlbilnoojkaaMg8z
import Derived.Test.YtfjdlbilnoojkaaRows20z
import Derived.Test.YtfjdlbilnoojkaaLChk20z
import Derived.Test.YtfjdlbilnoojkaaReplayz
import Derived.Test.YtfjdlbilnoojkaaMlmhx2z
import Derived.Test.YtfjdlbilnoojkaaLEmanyz
import Derived.Test.YtfjdlbilnoojkaaRowFlatz
import Derived.Test.YtfjdlbilnoojkaaTwin20z
import Derived.Test.YtfjdlbilnoojkaaRSamez
import Derived.Test.YtfjdlbilnoojkaaMg6z
namespace Go.Proofs.Ytfjdlbilnoojkaa
open Go.RowKit

theorem sameG_r2 (g : Gd) : sameG g g = true := decide_eq_true ⟨rfl, rfl, rfl⟩
theorem mendTo_small {a : List (List Bool)} {m k j : Nat} (h : ∀ r ∈ a, r.length ≤ 64) : ∀ e ∈ mendTo a m k j, e.2.length ≤ 64 := by
  intro e he
  unfold mendTo at he
  rcases List.mem_append.1 he with h1 | h1
  · rw [List.eq_of_mem_replicate h1]; simp
  · obtain ⟨r, hr, rfl⟩ := List.mem_map.1 h1
    exact h r (List.mem_of_mem_drop (List.mem_of_mem_take hr))
theorem chkP_good {a m : Nat} (h1 : 1 ≤ a) (h2 : a ≤ 40) (h3 : 1 ≤ m) (h4 : m ≤ 64) : chkP a m (m * a) = 0 := by
  have hc : chk a m (m * a) = 0 := by
    unfold chk
    rw [if_neg (by omega), if_neg]
    rintro (h | h | h)
    · omega
    · omega
    · exact h (by rw [Nat.mul_comm]; push_cast; rfl)
  unfold chkP
  rw [if_neg (by rw [hc]; simp), if_neg (by omega)]
set_option linter.unusedVariables false in
set_option maxHeartbeats 8000000 in
set_option maxRecDepth 100000 in
theorem lmends_walk (g : Gd) (l : List Ev) (A : Option Addr) (n c : Nat) (A2 : Option Addr) (n2 c2' : Nat) (w : World) (hr : Rd w A n (g.bits.map Value.bool)) (hnc : n ≤ c) (hlg : LogR w A2 n2 l) (hnc2 : n2 ≤ c2') (hc2 : c2' ≤ maxLen) :
    Calls Try.prog 6 #[.agg #[.int .i64 g.w, .int .i64 g.h, .slice A n c], .slice A2 n2 c2'] w fun e w' => e = .returned (.bool true) ∧ Below w.heap.size w w' := by
  obtain ⟨W, H, bs⟩ := g
  simp only at hr ⊢
  have hl : bs.length = n := by simpa using hr.len
  have S0 := (St.start w).box #[.int .i64 W, .int .i64 H, .slice A n c] 25
  simp only [List.nil_append] at S0
  have HAL := Lib.hid (fun u => alive20_any u)
  have HF1 := Lib.hid (fun u => fit20_any W H A n c u)
  have HGT := Lib.hid (fun u (hu : Below w.heap.size w u) => great20_any l A2 n2 c2' u (hlg.below hu) (Nat.le_trans hnc2 hc2))
  have HCK := Lib.hid (fun u (hu : Below w.heap.size w u) => rechk_any W l A2 n2 c2' u (hlg.below hu))
  by_cases h1 : chkP W H n = 0
  · rw [decide_eq_true h1] at HF1
    by_cases hg : greatE l = true
    · rw [hg] at HGT
      clear h1 hg hr hl
      go_enter Try.func6, Try.ntmps6
      go_wp2_with fail
      refine (HAL.out _).mono ?_
      rintro e w1 ⟨rfl, hb1⟩
      have S1 := S0.keep hb1
      obtain ⟨c0, c1, c2⟩ := (S1.blk 0 rfl).cell3
      go_wp2_with fail
      refine (HF1.out _).mono ?_
      rintro e w2 ⟨rfl, hb2⟩
      have S2 := S1.keep hb2
      clear c0 c1 c2 hb1 hb2 S1
      go_wp2_with fail
      refine (HGT.out _ S2.below).mono ?_
      rintro e w3 ⟨rfl, hw3⟩
      have hw3' := hw3.symm
      subst hw3'
      go_wp2_with fail
      go_ret
      exact ⟨rfl, S2.below⟩
    have hg' : greatE l = false := by simpa using hg
    rw [hg'] at HGT
    clear hg'
    by_cases hk : chkE W l = 0
    · rw [hk] at HCK
      by_cases ht : (runE W l).1 = 0
      · obtain ⟨a, h, rfl, rfl, ha1, ha, hh1, hh, hn⟩ := chkP_zero h1
        obtain ⟨p, hp⟩ : ∃ p, runE a l = (0, p) := ⟨(runE a l).2, Prod.ext ht rfl⟩
        have hlen : bs.length = h * a := hl.trans hn
        have hck : chkP a h bs.length = 0 := by rw [hl]; exact h1
        obtain ⟨R, hR⟩ : ∃ R, rowsB a h bs = R := ⟨_, rfl⟩
        have hRn : RowsN a R := hR ▸ rowsB_rows hlen
        have hRl : R.length = h := hR ▸ rowsB_len a h bs
        have hpn : RowsN a p := by have := (runE_rows (N := a) (l := l)).1; rw [hp] at this; exact this
        have hpl : p.length ≤ 64 := by have := (runE_rows (N := a) (l := l)).2; rw [hp] at this; exact this
        have hcom := com_le R p
        have hml := mendL_len R p
        have hl60 : l.length ≤ 60 := by
          have h400 := (chkE_zero hk).2.1
          have hgg : ¬ ((60 < n2 ∧ n2 ≤ 400) ∨ 410 < n2) := fun hx => by
            have h3 : greatE l = true := decide_eq_true (.inr (by rw [hlg.len]; exact hx))
            rw [h3] at hg
            exact hg rfl
          have := hlg.len
          omega
        have hm50 := (greatE_no (by simpa using hg)).1
        have hX : mendE a h bs l = (mendL R p, 0) := hR ▸ mendE_ok hck hp (by rw [hR, hml]; omega)
        have hALL : runE a (l ++ mendL R p) = (0, R) := runE_mend hp (by omega) hRn (by rw [hml]; omega)
        have hRne : R ≠ [] := by rintro rfl; simp at hRl; omega
        have hY : replayG a (l ++ mendL R p) = (⟨a, h, bs⟩, 0) := by
          rw [replayG_ok (by rw [hALL]) (by rw [hALL]; exact hRne), hALL, ← hR, liftsG_rows hlen]
        obtain ⟨ml, hmlq⟩ : ∃ ml, mendL R p = ml := ⟨_, rfl⟩
        rw [hmlq] at hX hY hml
        have hm64 : ∀ e ∈ ml, e.2.length ≤ 64 := hmlq ▸ mendTo_small (fun r hr => by have := hRn r hr; omega)
        have HM := Lib.hid (fun u (hu : Below w.heap.size w u) => show Calls Try.prog 17 #[.agg #[.int .i64 a, .int .i64 h, .slice A n c], .slice A2 n2 c2'] u (RetE (ml, 0) u) from hX ▸ mend_any a h bs A n c l A2 n2 c2' u (hr.below hu) hnc (hlg.below hu) (by have := hlg.len; omega))
        have HTW := Lib.hid (fun u (hu : Below w.heap.size w u) => twin20_any l A2 n2 c2' u (hlg.below hu) (by have := hlg.len; omega) (fun e he => by have := hm50 e he; omega))
        have HRA := Lib.hid (fun (A' : Option Addr) (n' c' : Nat) u (h' : LogR u A' n' (l ++ ml)) => show Calls Try.prog 13 #[.int .i64 a, .slice A' n' c'] u (RetG (⟨a, h, bs⟩, 0) u) from hY ▸ replay_any a (l ++ ml) A' n' c' u h')
        have HSM := Lib.hid (fun (A' : Option Addr) (n' c' : Nat) u (hu : Below w.heap.size w u) (hr2 : Rd u A' n' (bs.map Value.bool)) => show Calls Try.prog 21 #[.agg #[.int .i64 a, .int .i64 h, .slice A' n' c'], .agg #[.int .i64 a, .int .i64 h, .slice A n c]] u (fun e w' => e = .returned (.bool true) ∧ Below u.heap.size u w') from sameG_r2 ⟨a, h, bs⟩ ▸ rsame_any ⟨a, h, bs⟩ ⟨a, h, bs⟩ A' A n' c' n c u hr2 (hr.below hu) (by
          have h3 := hr2.len
          rw [List.length_map] at h3
          rw [← h3, hlen]
          exact Nat.le_trans (Nat.mul_le_mul hh ha) (by decide)))
        have hmlz : ml.length ≤ 128 := by omega
        have HMZ := Lib.hid hmlz
        have HL2 := Lib.hid (show n2 ≤ 60 by have := hlg.len; omega)
        obtain ⟨i0, hi, hz0, hz1, hz2⟩ := info_parts2 Try.infoEv
        by_cases hpe : p = []
        · subst hpe
          have HRP := Lib.hid (fun u (hu : Below w.heap.size w u) => show Calls Try.prog 13 #[.int .i64 a, .slice A2 n2 c2'] u (RetG (Gd.zero, 22) u) from (replayG_none (N := a) (l := l) (by rw [hp]) (by rw [hp])) ▸ replay_any a l A2 n2 c2' u (hlg.below hu))
          have HMH := Lib.hid (show ml.length = h by rw [hml, show comL R [] = 0 from by have := com_le R []; simpa using this.2]; simp; omega)
          clear hX hY hml hmlq hmlz hm64 hALL hp hpn hpl hcom h1 hck hRne hRn hlen hl hn
          go_enter Try.func6, Try.ntmps6
          go_wp2_with fail
          refine (HAL.out _).mono ?_
          rintro e w1 ⟨rfl, hb1⟩
          have S1 := S0.keep hb1
          obtain ⟨c0, c1, c2⟩ := (S1.blk 0 rfl).cell3
          go_wp2_with fail
          refine (HF1.out _).mono ?_
          rintro e w2 ⟨rfl, hb2⟩
          have S2 := S1.keep hb2
          clear c0 c1 c2 hb1 hb2 S1
          go_wp2_with fail
          refine (HGT.out _ S2.below).mono ?_
          rintro e w3 ⟨rfl, hw3⟩
          have hw3' := hw3.symm
          subst hw3'
          obtain ⟨c0, c1, c2⟩ := (S2.blk 0 rfl).cell3
          go_wp2_with fail
          refine (HCK.out _ S2.below).mono ?_
          rintro e w4 ⟨rfl, hw4⟩
          have hw4' := hw4.symm
          subst hw4'
          go_wp2_with fail
          refine (HM.out _ S2.below).mono ?_
          rintro e w5 ⟨Am, nm, cm, rfl, hlm, hnm, hcm, hb5⟩
          have S5 := S2.keep hb5
          clear c0 c1 c2 S2 hb5
          obtain ⟨c0, c1, c2⟩ := (S5.blk 0 rfl).cell3
          have hnml : ml.length = nm := hlm.len
          have hd4 : decide (400 < (nm : Int)) = false := decide_eq_false (by have := HMZ.out; omega)
          have hd4n : decide (400 < nm) = false := decide_eq_false (by have := HMZ.out; omega)
          go_wp2_with fail
          refine (HTW.out _ S5.below).mono ?_
          rintro e w6 ⟨AO, cO, rfl, hleO, hb6⟩
          have hsz6 := hb6.size
          have hnn : n2 + nm ≤ 1048576 := by have := HMZ.out; have := HL2.out; omega
          go_wp2_with (at_builtin; go_loud (refine wpList_evs_log _ rfl (.tmp 69) (.tmp 70) 22 rfl w5.heap.size 59 4 i0 (.agg #[.int .u8 0, .slice none 0 0]) Try.underlying22 hi hz0 hz1 hz2 rfl (by decide) (.slice AO n2 cO) n2 l rfl hleO Am nm cm ml w5 rfl hlm hb6 (Nat.le_refl _) hnn hsz6 ?_))
          intro A8 c8 w8 hle8 hgr8 hown8
          have hb8 := hb6.grown hgr8 hsz6 hown8
          have S8 := (S5.keep hb8).addRd ((hr.below S5.below).below hb8)
          have hl8 := hle8.read
          simp only [List.cons_append, List.nil_append] at S8
          clear c0 c1 c2 hleO hgr8 hown8 hle8 hb6 hsz6
          obtain ⟨c0, c1, c2⟩ := (S8.blk 0 rfl).cell3
          go_wp2_with fail
          refine (HRA.out A8 (n2 + nm) c8 _ hl8).mono ?_
          rintro e w10 ⟨A10, n10, c10, rfl, hown10, hb10⟩
          have S10 := (((S8.keep hb10).sub (L' := [Fact.blk w.heap.size 25 #[.int .i64 a, .int .i64 h, .slice A n c]]) (by simp)).addRd (rd_of_own hown10)).box #[.int .i64 a, .int .i64 h, .slice A10 n10 c10] 25
          simp only [List.cons_append, List.nil_append] at S10
          clear c0 c1 c2 S8 hl8 hb8 hb10 hown10 S5 hnn
          obtain ⟨c0, c1, c2⟩ := (S10.blk 0 rfl).cell3
          obtain ⟨d0, d1, d2⟩ := (S10.blk 2 rfl).cell3
          go_wp2_with fail
          refine (HSM.out A10 n10 c10 _ S10.below (S10.rd 1 rfl)).mono ?_
          rintro e w9 ⟨rfl, hb9⟩
          have S9 := S10.keep hb9
          clear c0 c1 c2 d0 d1 d2 S10 hb9
          obtain ⟨c0, c1, c2⟩ := (S9.blk 0 rfl).cell3
          go_wp2_with fail
          refine (HRP.out _ S9.below).mono ?_
          rintro e w11 ⟨A11, n11, c11, rfl, hown11, hb11⟩
          have S11 := (S9.keep hb11).box #[.int .i64 Gd.zero.w, .int .i64 Gd.zero.h, .slice A11 n11 c11] 25
          simp only [List.cons_append, List.nil_append] at S11
          clear c0 c1 c2 S9 hb11
          obtain ⟨c0, c1, c2⟩ := (S11.blk 0 rfl).cell3
          obtain rfl : h = nm := by have := HMH.out; omega
          go_wp2_with fail
          go_ret
          exact ⟨rfl, S11.below⟩
        · obtain ⟨m, hm⟩ : ∃ m, p.length = m := ⟨_, rfl⟩
          obtain ⟨bt, hbt⟩ : ∃ bt, p.flatten = bt := ⟨_, rfl⟩
          have hflat : rowsB a m bt = p := by rw [← hm, ← hbt]; exact rowsB_flat2 hpn
          have hm1 : 1 ≤ m := by
            rcases Nat.eq_zero_or_pos m with h0 | h0
            · exact absurd (List.eq_nil_of_length_eq_zero (hm.trans h0)) hpe
            · exact h0
          have hblen : bt.length = m * a := by rw [← hbt, ← hm]; exact flat_len hpn
          have hckm : ∀ n', n' = bt.length → chkP a m n' = 0 := by
            rintro n' rfl
            rw [hblen]
            exact chkP_good ha1 ha hm1 (by omega)
          have HRP := Lib.hid (fun u (hu : Below w.heap.size w u) => show Calls Try.prog 13 #[.int .i64 a, .slice A2 n2 c2'] u (RetG (⟨a, m, bt⟩, 0) u) from (show replayG a l = (⟨a, m, bt⟩, 0) by rw [replayG_ok (by rw [hp]) (by rw [hp]; exact hpe), hp]; unfold liftsG; rw [hm, hbt]) ▸ replay_any a l A2 n2 c2' u (hlg.below hu))
          have HF2 := Lib.hid (fun (A' : Option Addr) (n' c' : Nat) u (h2 : Rd u A' n' (bt.map Value.bool)) => show Calls Try.prog 28 #[.agg #[.int .i64 a, .int .i64 (m : Nat), .slice A' n' c']] u (fun e w' => e = .returned (.bool true) ∧ Below u.heap.size u w') from decide_eq_true (hckm n' (by have h3 := h2.len; rw [List.length_map] at h3; exact h3.symm)) ▸ fit20_any a m A' n' c' u)
          have HROWS := Lib.hid (fun (k : Nat) (hka : k < h) (hkm : k < m) (r : Bool) (hd : decide (R[k]? = p[k]?) = r) (A' : Option Addr) (n' c' : Nat) u (hu : Below w.heap.size w u) (h2 : Rd u A' n' (bt.map Value.bool)) => show Calls Try.prog 30 #[.agg #[.int .i64 a, .int .i64 h, .slice A n c], .int .i64 k, .agg #[.int .i64 a, .int .i64 (m : Nat), .slice A' n' c'], .int .i64 k] u (fun e w' => e = .returned (.bool r) ∧ Below u.heap.size u w') from
            (show decide (rowB a bs k = rowB a bt k) = r by rw [← hd, ← hR, ← hflat, rowsB_at hka, rowsB_at hkm]; simp) ▸ rows20_any a h m k k bs bt A A' n c n' c' u (by omega) hh (by omega) hka hkm hlen hblen (hr.below hu) h2)
          have HEND := Lib.hid (fun (k : Nat) (hka : k ≤ h) (hkm : k ≤ m) (hs : ∀ j, j < k → R[j]? = p[j]?) (hst : k = h ∨ k = m ∨ R[k]? ≠ p[k]?) => show ml.length + k = (m - k) + h from by
            have h3 : comL R p = k := com_is (by omega) (by omega) hs (by rw [hRl, hm]; exact hst)
            rw [hml, hm, hRl, h3]; omega)
          clear hX hY hml hmlq hmlz hm64 hALL hp hpn hcom h1 hck hRne hRn hlen hl hn hflat hbt hblen hckm hpe
          go_enter Try.func6, Try.ntmps6
          go_wp2_with fail
          refine (HAL.out _).mono ?_
          rintro e w1 ⟨rfl, hb1⟩
          have S1 := S0.keep hb1
          obtain ⟨c0, c1, c2⟩ := (S1.blk 0 rfl).cell3
          go_wp2_with fail
          refine (HF1.out _).mono ?_
          rintro e w2 ⟨rfl, hb2⟩
          have S2 := S1.keep hb2
          clear c0 c1 c2 hb1 hb2 S1
          go_wp2_with fail
          refine (HGT.out _ S2.below).mono ?_
          rintro e w3 ⟨rfl, hw3⟩
          have hw3' := hw3.symm
          subst hw3'
          obtain ⟨c0, c1, c2⟩ := (S2.blk 0 rfl).cell3
          go_wp2_with fail
          refine (HCK.out _ S2.below).mono ?_
          rintro e w4 ⟨rfl, hw4⟩
          have hw4' := hw4.symm
          subst hw4'
          go_wp2_with fail
          refine (HM.out _ S2.below).mono ?_
          rintro e w5 ⟨Am, nm, cm, rfl, hlm, hnm, hcm, hb5⟩
          have S5 := S2.keep hb5
          clear c0 c1 c2 S2 hb5
          obtain ⟨c0, c1, c2⟩ := (S5.blk 0 rfl).cell3
          have hnml : ml.length = nm := hlm.len
          have hd4 : decide (400 < (nm : Int)) = false := decide_eq_false (by have := HMZ.out; omega)
          have hd4n : decide (400 < nm) = false := decide_eq_false (by have := HMZ.out; omega)
          go_wp2_with fail
          refine (HTW.out _ S5.below).mono ?_
          rintro e w6 ⟨AO, cO, rfl, hleO, hb6⟩
          have hsz6 := hb6.size
          have hnn : n2 + nm ≤ 1048576 := by have := HMZ.out; have := HL2.out; omega
          go_wp2_with (at_builtin; go_loud (refine wpList_evs_log _ rfl (.tmp 69) (.tmp 70) 22 rfl w5.heap.size 59 4 i0 (.agg #[.int .u8 0, .slice none 0 0]) Try.underlying22 hi hz0 hz1 hz2 rfl (by decide) (.slice AO n2 cO) n2 l rfl hleO Am nm cm ml w5 rfl hlm hb6 (Nat.le_refl _) hnn hsz6 ?_))
          intro A8 c8 w8 hle8 hgr8 hown8
          have hb8 := hb6.grown hgr8 hsz6 hown8
          have S8 := (S5.keep hb8).addRd ((hr.below S5.below).below hb8)
          have hl8 := hle8.read
          simp only [List.cons_append, List.nil_append] at S8
          clear c0 c1 c2 hleO hgr8 hown8 hle8 hb6 hsz6
          obtain ⟨c0, c1, c2⟩ := (S8.blk 0 rfl).cell3
          go_wp2_with fail
          refine (HRA.out A8 (n2 + nm) c8 _ hl8).mono ?_
          rintro e w10 ⟨A10, n10, c10, rfl, hown10, hb10⟩
          have S10 := (((S8.keep hb10).sub (L' := [Fact.blk w.heap.size 25 #[.int .i64 a, .int .i64 h, .slice A n c]]) (by simp)).addRd (rd_of_own hown10)).box #[.int .i64 a, .int .i64 h, .slice A10 n10 c10] 25
          simp only [List.cons_append, List.nil_append] at S10
          clear c0 c1 c2 S8 hl8 hb8 hb10 hown10 S5 hnn
          obtain ⟨c0, c1, c2⟩ := (S10.blk 0 rfl).cell3
          obtain ⟨d0, d1, d2⟩ := (S10.blk 2 rfl).cell3
          go_wp2_with fail
          refine (HSM.out A10 n10 c10 _ S10.below (S10.rd 1 rfl)).mono ?_
          rintro e w9 ⟨rfl, hb9⟩
          have S9 := S10.keep hb9
          clear c0 c1 c2 d0 d1 d2 S10 hb9
          obtain ⟨c0, c1, c2⟩ := (S9.blk 0 rfl).cell3
          go_wp2_with fail
          refine (HRP.out _ S9.below).mono ?_
          rintro e w11 ⟨A11, n11, c11, rfl, hown11, hb11⟩
          have S11 := ((S9.keep hb11).addRd (rd_of_own hown11)).box #[.int .i64 a, .int .i64 (m : Nat), .slice A11 n11 c11] 25
          simp only [List.cons_append, List.nil_append] at S11
          clear c0 c1 c2 S9 hb11 hown11
          obtain ⟨c0, c1, c2⟩ := (S11.blk 0 rfl).cell3
          obtain ⟨d0, d1, d2⟩ := (S11.blk 4 rfl).cell3
          go_wp2_with fail
          refine (HF2.out A11 n11 c11 _ (S11.rd 3 rfl)).mono ?_
          rintro e w12 ⟨rfl, hb12⟩
          have S12 := S11.keep hb12
          clear c0 c1 c2 d0 d1 d2 S11 hb12
          obtain ⟨c0, c1, c2⟩ := (S12.blk 0 rfl).cell3
          obtain ⟨d0, d1, d2⟩ := (S12.blk 4 rfl).cell3
          go_wp2_with fail
          go_loopw [15] (fun i wr => ∃ k : Nat, k ≤ h ∧ k ≤ m ∧ Hid (∀ j, j < k → R[j]? = p[j]?) ∧ i = .int .i64 k ∧ St w [Fact.blk w.heap.size 25 #[.int .i64 a, .int .i64 h, .slice A n c], Fact.rd A10 n10 (bs.map Value.bool), Fact.blk w10.heap.size 25 #[.int .i64 a, .int .i64 h, .slice A10 n10 c10], Fact.rd A11 n11 (bt.map Value.bool), Fact.blk w11.heap.size 25 #[.int .i64 a, .int .i64 (m : Nat), .slice A11 n11 c11]] wr) (fun i _ => h - (intOf i).toNat)
          case atStart => exact ⟨0, Nat.zero_le _, Nat.zero_le _, Lib.hid (fun j hj => absurd hj (Nat.not_lt_zero j)), rfl, S12⟩
          case round =>
            clear c0 c1 c2 d0 d1 d2
            obtain ⟨k, hkh, hkm, hS, rfl, T1⟩ := hrel
            clear S12
            obtain ⟨c0, c1, c2⟩ := (T1.blk 0 rfl).cell3
            obtain ⟨d0, d1, d2⟩ := (T1.blk 4 rfl).cell3
            have HFIN := Lib.hid (show (k = h ∨ k = m ∨ R[k]? ≠ p[k]?) → ∃ d s : Nat, IntKind.i64.wrap ((m : Int) - k) = d ∧ IntKind.i64.wrap ((d : Int) + h) = s ∧ IntKind.i64.wrap ((s : Int) - k) = nm from fun hst => by
              have h3 := HEND.out k hkh hkm hS.out hst
              refine ⟨m - k, m - k + h, ?_, ?_, ?_⟩
              · rw [wrap_small _ (by omega) (by omega)]; omega
              · rw [wrap_small _ (by omega) (by omega)]; omega
              · rw [wrap_small _ (by omega) (by omega)]; omega)
            by_cases hlt : k < h
            · by_cases hlm : k < m
              · by_cases hrw : R[k]? = p[k]?
                · clear HFIN
                  have HQ := Lib.hid (HROWS.out k hlt hlm true (decide_eq_true hrw))
                  have HHS := Lib.hid (show ∀ j, j < k + 1 → R[j]? = p[j]? from fun j hj => (Nat.lt_or_eq_of_le (Nat.le_of_lt_succ hj)).elim (hS.out j) (fun e => e ▸ hrw))
                  clear hrw
                  go_wp2_with fail
                  refine (HQ.out A11 n11 c11 _ T1.below (T1.rd 3 rfl)).mono ?_
                  rintro e w13 ⟨rfl, hb13⟩
                  have T2 := T1.keep hb13
                  go_wp2_with fail
                  go_roundw
                  case rel => exact ⟨k + 1, by omega, by omega, Lib.hid (fun j hj => HHS.out j hj), by go_num, T2⟩
                  case measure => simp [intOf]; omega
                · obtain ⟨d, s, hw1, hw2, hw3⟩ := HFIN.out (.inr (.inr hrw))
                  have HQ := Lib.hid (HROWS.out k hlt hlm false (decide_eq_false hrw))
                  clear hrw HFIN
                  go_wp2_with fail
                  refine (HQ.out A11 n11 c11 _ T1.below (T1.rd 3 rfl)).mono ?_
                  rintro e w13 ⟨rfl, hb13⟩
                  have T2 := T1.keep hb13
                  clear c0 c1 c2 d0 d1 d2 T1
                  obtain ⟨c0, c1, c2⟩ := (T2.blk 0 rfl).cell3
                  obtain ⟨d0, d1, d2⟩ := (T2.blk 4 rfl).cell3
                  go_wp2_with fail
                  go_ret
                  exact ⟨rfl, T2.below⟩
              · obtain ⟨d, s, hw1, hw2, hw3⟩ := HFIN.out (.inr (.inl (by omega)))
                clear HFIN
                go_wp2_with fail
                go_ret
                exact ⟨rfl, T1.below⟩
            · obtain rfl : k = h := by omega
              obtain ⟨d, s, hw1, hw2, hw3⟩ := HFIN.out (.inl rfl)
              clear HFIN
              go_wp2_with fail
              go_ret
              exact ⟨rfl, T1.below⟩
      · have HX0 := mendE_err (W := W) (H := H) (bs := bs) (l := l) (by rw [hl]; exact h1) ht
        have HY0 := replayG_err (N := W) (l := l) ht
        have hn2 : n2 ≤ 410 := by have h3 := (greatE_no (by simpa using hg)).2; have h4 := hlg.len; omega
        rcases runE_err2 hk ht with h4 | h4
        · have HX : mendE W H bs l = ([], 4) := HX0.trans (by rw [h4])
          have HY : replayG W l = (Gd.zero, 4) := HY0.trans (by rw [h4])
          clear HX0 HY0 h4 ht
          have HM := Lib.hid (fun u (hu : Below w.heap.size w u) => show Calls Try.prog 17 #[.agg #[.int .i64 W, .int .i64 H, .slice A n c], .slice A2 n2 c2'] u (RetE ([], 4) u) from HX ▸ mend_any W H bs A n c l A2 n2 c2' u (hr.below hu) hnc (hlg.below hu) (by omega))
          have HRP := Lib.hid (fun u (hu : Below w.heap.size w u) => show Calls Try.prog 13 #[.int .i64 W, .slice A2 n2 c2'] u (RetG (Gd.zero, 4) u) from HY ▸ replay_any W l A2 n2 c2' u (hlg.below hu))
          clear h1 hg hk hr hl HX HY
          go_enter Try.func6, Try.ntmps6
          go_wp2_with fail
          refine (HAL.out _).mono ?_
          rintro e w1 ⟨rfl, hb1⟩
          have S1 := S0.keep hb1
          obtain ⟨c0, c1, c2⟩ := (S1.blk 0 rfl).cell3
          go_wp2_with fail
          refine (HF1.out _).mono ?_
          rintro e w2 ⟨rfl, hb2⟩
          have S2 := S1.keep hb2
          clear c0 c1 c2 hb1 hb2 S1
          go_wp2_with fail
          refine (HGT.out _ S2.below).mono ?_
          rintro e w3 ⟨rfl, hw3⟩
          have hw3' := hw3.symm
          subst hw3'
          obtain ⟨c0, c1, c2⟩ := (S2.blk 0 rfl).cell3
          go_wp2_with fail
          refine (HCK.out _ S2.below).mono ?_
          rintro e w4 ⟨rfl, hw4⟩
          have hw4' := hw4.symm
          subst hw4'
          go_wp2_with fail
          refine (HM.out _ S2.below).mono ?_
          rintro e w5 ⟨Am, nm, cm, rfl, hlm, hnm, hcm, hb5⟩
          have S5 := S2.keep hb5
          clear c0 c1 c2 S2 hb5
          obtain ⟨c0, c1, c2⟩ := (S5.blk 0 rfl).cell3
          go_wp2_with fail
          refine (HRP.out _ S5.below).mono ?_
          rintro e w6 ⟨A6, n6, c6, rfl, hown6, hb6⟩
          have S6 := (S5.keep hb6).box #[.int .i64 0, .int .i64 0, .slice A6 n6 c6] 25
          go_wp2_with fail
          go_ret
          exact ⟨rfl, S6.below⟩
        · have HX : mendE W H bs l = ([], 36) := HX0.trans (by rw [h4])
          have HY : replayG W l = (Gd.zero, 36) := HY0.trans (by rw [h4])
          clear HX0 HY0 h4 ht
          have HM := Lib.hid (fun u (hu : Below w.heap.size w u) => show Calls Try.prog 17 #[.agg #[.int .i64 W, .int .i64 H, .slice A n c], .slice A2 n2 c2'] u (RetE ([], 36) u) from HX ▸ mend_any W H bs A n c l A2 n2 c2' u (hr.below hu) hnc (hlg.below hu) (by omega))
          have HRP := Lib.hid (fun u (hu : Below w.heap.size w u) => show Calls Try.prog 13 #[.int .i64 W, .slice A2 n2 c2'] u (RetG (Gd.zero, 36) u) from HY ▸ replay_any W l A2 n2 c2' u (hlg.below hu))
          clear h1 hg hk hr hl HX HY
          go_enter Try.func6, Try.ntmps6
          go_wp2_with fail
          refine (HAL.out _).mono ?_
          rintro e w1 ⟨rfl, hb1⟩
          have S1 := S0.keep hb1
          obtain ⟨c0, c1, c2⟩ := (S1.blk 0 rfl).cell3
          go_wp2_with fail
          refine (HF1.out _).mono ?_
          rintro e w2 ⟨rfl, hb2⟩
          have S2 := S1.keep hb2
          clear c0 c1 c2 hb1 hb2 S1
          go_wp2_with fail
          refine (HGT.out _ S2.below).mono ?_
          rintro e w3 ⟨rfl, hw3⟩
          have hw3' := hw3.symm
          subst hw3'
          obtain ⟨c0, c1, c2⟩ := (S2.blk 0 rfl).cell3
          go_wp2_with fail
          refine (HCK.out _ S2.below).mono ?_
          rintro e w4 ⟨rfl, hw4⟩
          have hw4' := hw4.symm
          subst hw4'
          go_wp2_with fail
          refine (HM.out _ S2.below).mono ?_
          rintro e w5 ⟨Am, nm, cm, rfl, hlm, hnm, hcm, hb5⟩
          have S5 := S2.keep hb5
          clear c0 c1 c2 S2 hb5
          obtain ⟨c0, c1, c2⟩ := (S5.blk 0 rfl).cell3
          go_wp2_with fail
          refine (HRP.out _ S5.below).mono ?_
          rintro e w6 ⟨A6, n6, c6, rfl, hown6, hb6⟩
          have S6 := (S5.keep hb6).box #[.int .i64 0, .int .i64 0, .slice A6 n6 c6] 25
          go_wp2_with fail
          go_ret
          exact ⟨rfl, S6.below⟩
    · generalize chkE W l = K at *
      have hkb : (K != 0) = true := by simpa using hk
      clear h1 hg hr hl
      go_enter Try.func6, Try.ntmps6
      go_wp2_with fail
      refine (HAL.out _).mono ?_
      rintro e w1 ⟨rfl, hb1⟩
      have S1 := S0.keep hb1
      obtain ⟨c0, c1, c2⟩ := (S1.blk 0 rfl).cell3
      go_wp2_with fail
      refine (HF1.out _).mono ?_
      rintro e w2 ⟨rfl, hb2⟩
      have S2 := S1.keep hb2
      clear c0 c1 c2 hb1 hb2 S1
      go_wp2_with fail
      refine (HGT.out _ S2.below).mono ?_
      rintro e w3 ⟨rfl, hw3⟩
      have hw3' := hw3.symm
      subst hw3'
      obtain ⟨c0, c1, c2⟩ := (S2.blk 0 rfl).cell3
      go_wp2_with fail
      refine (HCK.out _ S2.below).mono ?_
      rintro e w4 ⟨rfl, hw4⟩
      have hw4' := hw4.symm
      subst hw4'
      go_wp2_with fail
      go_ret
      exact ⟨rfl, S2.below⟩
  · rw [decide_eq_false h1] at HF1
    clear h1 hr hl
    go_enter Try.func6, Try.ntmps6
    go_wp2_with fail
    refine (HAL.out _).mono ?_
    rintro e w1 ⟨rfl, hb1⟩
    have S1 := S0.keep hb1
    obtain ⟨c0, c1, c2⟩ := (S1.blk 0 rfl).cell3
    go_wp2_with fail
    refine (HF1.out _).mono ?_
    rintro e w2 ⟨rfl, hb2⟩
    have S2 := S1.keep hb2
    clear c0 c1 c2 hb1 hb2 S1
    go_wp2_with fail
    go_ret
    exact ⟨rfl, S2.below⟩
end Go.Proofs.Ytfjdlbilnoojkaa
